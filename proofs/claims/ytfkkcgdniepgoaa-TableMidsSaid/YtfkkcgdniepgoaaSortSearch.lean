/- sort.Search with any closure that answers as a threshold does. -/
import Derived.Test.YtfkkcgdniepgoaaTblMids
namespace Go.Proofs.Ytfkkcgdniepgoaa
open Go.RowKit
set_option maxHeartbeats 4000000
set_option maxRecDepth 100000
set_option linter.unusedVariables false

theorem sortSearch_one (c1 c2 : Value) (N r : Nat) (w : World) (hr : r ≤ N) (hN : N ≤ 1000000)
    (hf : ∀ k, k < N → ∀ wx, Below w.heap.size w wx → Calls Try.prog 59 #[.int .i64 (k : Int), c1, c2] wx fun x w' => x = .returned (.bool (decide (r ≤ k))) ∧ Below wx.heap.size wx w') :
    Calls Try.prog 58 #[.int .i64 (N : Int), .func (.func 59) #[] #[c1, c2]] w fun x w' => x = .returned (.int .i64 (r : Int)) ∧ Below w.heap.size w w' := by
  have Hf := Lib.hid hf
  clear hf
  go_enter Try.func58, Try.ntmps58
  go_wp2_with fail
  go_loopw [5, 6] (fun i j wr => ∃ a b : Nat, i = .int .i64 a ∧ j = .int .i64 b ∧ a ≤ r ∧ r ≤ b ∧ b ≤ N ∧ Hid (Below w.heap.size w wr)) (fun i j _ => (intOf j - intOf i).toNat)
  case atStart => exact ⟨0, N, rfl, rfl, by omega, by omega, by omega, Lib.hid (Below.refl _ _)⟩
  case round =>
    obtain ⟨a, b, rfl, rfl, ha, hb, hbn, Hbe⟩ := hrel
    by_cases hlt : a < b
    · have hab : (a : Int) < b := by omega
      obtain ⟨q, hq, hq1, hq2⟩ : ∃ q : Nat, ((a : Int) + b) / 2 = (q : Int) ∧ a ≤ q ∧ q < b := ⟨(a + b) / 2, by omega, by omega, by omega⟩
      have hfq := Hf.out q (by omega) _ Hbe.out
      have Hfq := Lib.hid hfq
      clear hfq
      go_wp2_with fail
      by_cases hqr : r ≤ q
      · have Hfq := Lib.hid (show Calls Try.prog 59 #[.int .i64 (q : Int), c1, c2] wr fun x w' => x = .returned (.bool true) ∧ Below wr.heap.size wr w' from by have h := Hfq.out; rwa [decide_eq_true hqr] at h)
        refine Hfq.out.mono ?_
        rintro e wx ⟨rfl, hbx⟩
        have HB := Lib.hid (Hbe.out.trans (hbx.mono Hbe.out.size))
        clear hbx
        go_wp2_with fail
        go_roundw
        case rel => exact ⟨a, q, rfl, rfl, by omega, by omega, by omega, HB⟩
        case measure => simp [intOf]; omega
      · have Hfq := Lib.hid (show Calls Try.prog 59 #[.int .i64 (q : Int), c1, c2] wr fun x w' => x = .returned (.bool false) ∧ Below wr.heap.size wr w' from by have h := Hfq.out; rwa [decide_eq_false hqr] at h)
        refine Hfq.out.mono ?_
        rintro e wx ⟨rfl, hbx⟩
        have HB := Lib.hid (Hbe.out.trans (hbx.mono Hbe.out.size))
        clear hbx
        go_wp2_with fail
        go_roundw
        case rel => exact ⟨q + 1, b, rfl, rfl, by omega, by omega, by omega, HB⟩
        case measure => simp [intOf]; omega
    · obtain rfl : a = r := by omega
      obtain rfl : b = a := by omega
      have hab : decide ((b : Int) < b) = false := by simp
      go_wp2_with fail
      go_ret
      exact ⟨rfl, Hbe.out⟩

theorem sortSearch_two (c1 c2 c3 : Value) (N r : Nat) (w : World) (hr : r ≤ N) (hN : N ≤ 1000000)
    (hf : ∀ k, k < N → ∀ wx, Below w.heap.size w wx → Calls Try.prog 60 #[.int .i64 (k : Int), c1, c2, c3] wx fun x w' => x = .returned (.bool (decide (r ≤ k))) ∧ Below wx.heap.size wx w') :
    Calls Try.prog 58 #[.int .i64 (N : Int), .func (.func 60) #[] #[c1, c2, c3]] w fun x w' => x = .returned (.int .i64 (r : Int)) ∧ Below w.heap.size w w' := by
  have Hf := Lib.hid hf
  clear hf
  go_enter Try.func58, Try.ntmps58
  go_wp2_with fail
  go_loopw [5, 6] (fun i j wr => ∃ a b : Nat, i = .int .i64 a ∧ j = .int .i64 b ∧ a ≤ r ∧ r ≤ b ∧ b ≤ N ∧ Hid (Below w.heap.size w wr)) (fun i j _ => (intOf j - intOf i).toNat)
  case atStart => exact ⟨0, N, rfl, rfl, by omega, by omega, by omega, Lib.hid (Below.refl _ _)⟩
  case round =>
    obtain ⟨a, b, rfl, rfl, ha, hb, hbn, Hbe⟩ := hrel
    by_cases hlt : a < b
    · have hab : (a : Int) < b := by omega
      obtain ⟨q, hq, hq1, hq2⟩ : ∃ q : Nat, ((a : Int) + b) / 2 = (q : Int) ∧ a ≤ q ∧ q < b := ⟨(a + b) / 2, by omega, by omega, by omega⟩
      have hfq := Hf.out q (by omega) _ Hbe.out
      have Hfq := Lib.hid hfq
      clear hfq
      go_wp2_with fail
      by_cases hqr : r ≤ q
      · have Hfq := Lib.hid (show Calls Try.prog 60 #[.int .i64 (q : Int), c1, c2, c3] wr fun x w' => x = .returned (.bool true) ∧ Below wr.heap.size wr w' from by have h := Hfq.out; rwa [decide_eq_true hqr] at h)
        refine Hfq.out.mono ?_
        rintro e wx ⟨rfl, hbx⟩
        have HB := Lib.hid (Hbe.out.trans (hbx.mono Hbe.out.size))
        clear hbx
        go_wp2_with fail
        go_roundw
        case rel => exact ⟨a, q, rfl, rfl, by omega, by omega, by omega, HB⟩
        case measure => simp [intOf]; omega
      · have Hfq := Lib.hid (show Calls Try.prog 60 #[.int .i64 (q : Int), c1, c2, c3] wr fun x w' => x = .returned (.bool false) ∧ Below wr.heap.size wr w' from by have h := Hfq.out; rwa [decide_eq_false hqr] at h)
        refine Hfq.out.mono ?_
        rintro e wx ⟨rfl, hbx⟩
        have HB := Lib.hid (Hbe.out.trans (hbx.mono Hbe.out.size))
        clear hbx
        go_wp2_with fail
        go_roundw
        case rel => exact ⟨q + 1, b, rfl, rfl, by omega, by omega, by omega, HB⟩
        case measure => simp [intOf]; omega
    · obtain rfl : a = r := by omega
      obtain rfl : b = a := by omega
      have hab : decide ((b : Int) < b) = false := by simp
      go_wp2_with fail
      go_ret
      exact ⟨rfl, Hbe.out⟩
end Go.Proofs.Ytfkkcgdniepgoaa
