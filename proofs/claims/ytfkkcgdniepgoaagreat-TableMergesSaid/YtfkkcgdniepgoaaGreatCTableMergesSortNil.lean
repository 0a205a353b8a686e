/- slices.SortFunc of no entries, slices.Compact of at most one. -/
import Derived.Test.YtfkkcgdniepgoaaGreatCTableMergesSortEn
import Derived.Test.YtfkkcgdniepgoaaGreatCTableMergesCompact

namespace Go.Proofs.YtfkkcgdniepgoaaGreat
open Go.RowKit
set_option maxHeartbeats 4000000
set_option maxRecDepth 100000
set_option linter.unusedVariables false

theorem insertionNil_any (A : Option Addr) (c : Nat) (f : Value) (w : World) :
    Calls Tryz.prog 120 #[.slice A 0 c, .int .i64 0, .int .i64 0, f] w fun x w' => x = .returned (.tuple #[]) ∧ w = w' := by
  go_enter Tryz.func120, Tryz.ntmps120
  go_wp2_with fail
  go_loopw [8] (fun i wr => i = .int .i64 1 ∧ w = wr) (fun i _ => (intOf i).toNat)
  case atStart => exact ⟨rfl, rfl⟩
  case round =>
    obtain ⟨rfl, rfl⟩ := hrel
    go_wp2_with fail
    go_end0
    exact ⟨rfl, rfl⟩
theorem bitsLen64_zero (w : World) : Calls Tryz.prog 129 #[.int .u64 0] w fun x w' => x = .returned (.int .i64 0) ∧ w = w' := by
  go_enter Tryz.func129, Tryz.ntmps129
  go_wp2_with fail
  go_ret
  have h8 : wrap64 (wrap64 (Lib.len8 0)) = 0 := by rw [show Lib.len8 0 = 0 from by first | decide | rfl | kernel_rfl]; first | kernel_rfl | simp [wrap64] | (unfold wrap64; omega)
  exact ⟨by simp [h8], rfl⟩
theorem bitsLen_zero (w : World) : Calls Tryz.prog 110 #[.int .u64 0] w fun x w' => x = .returned (.int .i64 0) ∧ w = w' := by
  go_enter Tryz.func110, Tryz.ntmps110
  go_wp2_with fail
  refine (bitsLen64_zero _).mono ?_
  rintro e w1 ⟨rfl, rfl⟩
  go_wp2_with fail
  go_ret
  exact ⟨rfl, rfl⟩
theorem pdqNil_any (A : Option Addr) (c : Nat) (f : Value) (w : World) :
    Calls Tryz.prog 109 #[.slice A 0 c, .int .i64 0, .int .i64 0, .int .i64 0, f] w fun x w' => x = .returned (.tuple #[]) ∧ Below w.heap.size w w' := by
  go_enter Tryz.func109, Tryz.ntmps109
  go_wp2_with fail
  go_loopw [1, 2] (fun i j wr => i = .int .i64 0 ∧ j = .int .i64 0 ∧ w = wr) (fun i _ _ => (intOf i).toNat)
  case atStart => exact ⟨rfl, rfl, rfl⟩
  case round =>
    obtain ⟨rfl, rfl, rfl⟩ := hrel
    go_wp2_with fail
    refine (insertionNil_any _ _ _ _).mono ?_
    rintro e w1 ⟨rfl, rfl⟩
    go_wp2_with fail
    refine bodyPost_ret (results_none rfl _ _ _) rfl ?_
    exact ⟨rfl, Below.refl _ _⟩
theorem sortNil_any (A : Option Addr) (c : Nat) (f : Value) (w : World) :
    Calls Tryz.prog 76 #[.slice A 0 c, f] w fun x w' => x = .returned (.tuple #[]) ∧ Below w.heap.size w w' := by
  go_enter Tryz.func76, Tryz.ntmps76
  go_wp2_with fail
  refine (bitsLen_zero _).mono ?_
  rintro e w1 ⟨rfl, rfl⟩
  go_wp2_with fail
  refine (pdqNil_any _ _ _ _).mono ?_
  rintro e w1 ⟨rfl, hb1⟩
  go_wp2_with fail
  go_end0
  exact ⟨rfl, hb1⟩

theorem compactFew_any (A : Option Addr) (n c : Nat) (w : World) (hn : n < 2) :
    Calls Tryz.prog 78 #[.slice A n c] w fun x w' => x = .returned (.slice A n c) ∧ w = w' := by
  have h2' : decide ((n : Int) < 2) = true := by rw [decide_eq_true_iff]; omega
  go_enter Tryz.func78, Tryz.ntmps78
  go_wp2_with fail
  go_ret
  exact ⟨rfl, rfl⟩
end Go.Proofs.YtfkkcgdniepgoaaGreat
