/- '==' between two entries. -/
import Derived.Test.YtfjilngofdahgaaJIndexSaves2

namespace Go.Proofs.Ytfjilngofdahgaa
open Go.RowKit
set_option maxHeartbeats 400000
set_option maxRecDepth 100000
set_option linter.unusedVariables false

theorem run_eql_en (w : World) (x y z u v t : Int) : (binOp .eql 27 (.agg #[.int .i64 x, .int .i64 y, .int .i64 z]) (.agg #[.int .i64 u, .int .i64 v, .int .i64 t])).run Try.prog w = .ok (.bool ((x == u) && ((y == v) && (z == t)))) w := by
  go_simp
  split
  · split
    · split <;> simp_all
    · simp_all
  · simp_all
end Go.Proofs.Ytfjilngofdahgaa
