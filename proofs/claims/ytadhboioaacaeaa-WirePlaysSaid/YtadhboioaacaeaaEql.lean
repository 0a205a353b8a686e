/- '==' between two arrays of two integers. -/
import Derived.Test.YtadhboioaacaeaaRows
import Derived.WalkKit
import Derived.ChangeKeysEq
namespace Go.Proofs.Ytadhboioaacaeaa
open Go.RowKit
set_option maxRecDepth 100000

theorem info_arr2 : (Try.prog.info? 3).isSome = true := by kernel_rfl
theorem cells_int : Try.prog.cellsOf 3 = 1 := by kernel_rfl
theorem plain_int : Try.prog.plainKey 3 = true := by kernel_rfl
theorem run_eql_arr2 (w : World) (x y u v : Int) : (binOp .eql 53 (.agg #[.int .i64 x, .int .i64 y]) (.agg #[.int .i64 u, .int .i64 v])).run Try.prog w = .ok (.bool (x == u && y == v)) w := by
  obtain ⟨i, hi⟩ := Option.isSome_iff_exists.1 info_arr2
  have h := run_equalIn_array (P := Try.prog) w 9999 #[.int .i64 x, .int .i64 y] #[.int .i64 u, .int .i64 v] Try.underlying53 hi
  have p0 : ∀ (a b : Int), (part 3 #[.int .i64 a, .int .i64 b] (0 * 1)).run Try.prog w = .ok (.int .i64 a) w := fun a b => run_part_plain w plain_int (by simp)
  have p1 : ∀ (a b : Int), (part 3 #[.int .i64 a, .int .i64 b] (1 * 1)).run Try.prog w = .ok (.int .i64 b) w := fun a b => run_part_plain w plain_int (by simp)
  have p2 : ∀ (a b : Int), (part 3 #[.int .i64 a, .int .i64 b] 1).run Try.prog w = .ok (.int .i64 b) w := fun a b => run_part_plain w plain_int (by simp)
  have e : ∀ a b : Int, (Op.equalIn 9999 3 (.int .i64 a) (.int .i64 b)).run Try.prog w = .ok (a == b) w := fun a b => run_equalIn_int w 9998 3 .i64 .i64 a b Try.underlying3
  rw [run_eql_struct]
  rw [show (Op.equalIn 10000 53 (.agg #[.int .i64 x, .int .i64 y]) (.agg #[.int .i64 u, .int .i64 v])).run Try.prog w = _ from h]
  rw [show List.range 2 = [0, 1] from rfl, cells_int]
  simp only [Op.eqItems, Sem.run_bind, p0, p1, e, Result.andThen_ok]
  by_cases h1 : x = u
  · by_cases h2 : y = v
    · subst h1 h2
      simp [Result.andThen_ok, p1, p2, e]
    · have h3 : (y == v) = false := by simpa using h2
      subst h1
      simp [Result.andThen_ok, p1, p2, e, h3]
  · have h3 : (x == u) = false := by simpa using h1
    simp [Result.andThen_ok, p1, p2, e, h3]
end Go.Proofs.Ytadhboioaacaeaa
