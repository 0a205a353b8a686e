/- chapter 12: slices.Insert of one entry into a row of one's own. -/
import Derived.Test.YtfkkcgdniepgoaaGreatJTableMerges2
import Derived.Test.YtfkkcgdniepgoaaGreatCTableMergesCopy
import Derived.Lib.Overlaps
import Derived.Laws.Externs

namespace Go.Proofs.YtfkkcgdniepgoaaGreat
open Go.RowKit
set_option maxHeartbeats 4000000
set_option maxRecDepth 100000
set_option linter.unusedVariables false

theorem info_en : (Tryz.prog.info? 53).map (fun i => (i.zero, i.size, i.bytes)) = some (some (.agg #[.int .i64 0, .int .i64 0, .int .i64 0]), 3, 24) := by kernel_rfl
theorem size_en (w : World) : (Go.sizeOf 53).run Tryz.prog w = .ok 3 w := by kernel_rfl

theorem grown_any {w w' : World} {r : Option Nat} (h : w.grownBy w' none) : w.grownBy w' r :=
  ⟨h.os, h.tape, h.output, h.size, fun k hk _ => h.block k hk (by simp)⟩

end Go.Proofs.YtfkkcgdniepgoaaGreat
