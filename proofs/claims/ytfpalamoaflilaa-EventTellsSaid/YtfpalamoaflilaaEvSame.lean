/- chapter 7: two events held against each other. -/
import Derived.Test.YtfpalamoaflilaaEvGet1
import Derived.Test.YtfpalamoaflilaaOutT
namespace Go.Proofs.Ytfpalamoaflilaa
open Go.RowKit
set_option maxHeartbeats 2000000
set_option maxRecDepth 100000
set_option linter.unusedVariables false
attribute [local go_sem] run_store_flt

theorem canon_any (v : Nat) (w : World) : Calls Try.prog 89 #[.float .f64 v] w fun e w' => e = .returned (.float .f64 (canB v)) ∧ w = w' := by
  have hno := nanB_orderG v
  cases hq : nanB v with
  | true =>
    rw [hq] at hno
    have hc : canB v = 9221120237041090560 := by unfold canB; rw [if_pos hq]
    rw [hc]
    clear hc hq
    go_enter Try.func89, Try.ntmps89
    go_wp2_with (first | simp only [run_fromnan] | simp only [run_frombits])
    go_ret
    exact ⟨rfl, rfl⟩
  | false =>
    rw [hq] at hno
    have hc : canB v = v := by unfold canB; rw [hq]; rfl
    rw [hc]
    clear hc hq
    go_enter Try.func89, Try.ntmps89
    go_wp2_with fail
    go_ret
    exact ⟨rfl, rfl⟩
theorem bits_any (v : Nat) (w : World) : Calls Try.prog 82 #[.float .f64 v] w fun e w' => e = .returned (.int .u64 (canB v : Nat)) ∧ w = w' := by
  have h := canon_any v w
  have H := Lib.hid h; clear h
  go_enter Try.func82, Try.ntmps82
  go_wp2_with fail
  refine H.out.mono ?_
  rintro e w1 ⟨rfl, rfl⟩
  go_wp2_with (simp only [run_floatbits])
  go_ret
  exact ⟨rfl, rfl⟩
theorem realSame_any (a b : Nat) (w : World) : Calls Try.prog 59 #[.float .f64 a, .float .f64 b] w fun e w' => e = .returned (.bool (decide (canB a = canB b))) ∧ w = w' := by
  have ha := bits_any a w
  have hb := bits_any b w
  have e : ((canB a : Int) == (canB b : Int)) = decide (canB a = canB b) := by
    rw [Bool.eq_iff_iff, beq_iff_eq, decide_eq_true_eq]; omega
  have Ha := Lib.hid ha; have Hb := Lib.hid hb
  clear ha hb
  generalize canB a = x at *
  generalize canB b = y at *
  go_enter Try.func59, Try.ntmps59
  go_wp2_with fail
  refine Ha.out.mono ?_
  rintro e w1 ⟨rfl, rfl⟩
  go_wp2_with fail
  refine Hb.out.mono ?_
  rintro e w1 ⟨rfl, rfl⟩
  go_wp2_with fail
  go_ret
  exact ⟨rfl, rfl⟩

theorem str_beq (s t : ByteArray) : (s.toList == t.toList) = decide (s = t) := by
  rw [Bool.eq_iff_iff, beq_iff_eq, decide_eq_true_eq, ByteArray.toList_eq, ByteArray.toList_eq]
  exact ⟨fun h => str_ext h, fun h => by rw [h]⟩

theorem sameEvent_any (a b : Ev) (w : World) : Calls Try.prog 21 #[evA a, evA b] w fun e w' => e = .returned (.bool (sameE a b)) ∧ Below w.heap.size w w' := by
  obtain ⟨i, t, d, v⟩ := a
  obtain ⟨i2, t2, d2, v2⟩ := b
  unfold evA sameE
  dsimp only
  have hs := realSame_any v v2
  have hb1 : Below w.heap.size w ((w.alloc (.cells #[.int .i64 i, .string t, .string d, .float .f64 v] 33)).alloc (.cells #[.int .i64 i2, .string t2, .string d2, .float .f64 v2] 33)) := ((Below.refl _ _).alloc (Nat.le_refl _) _).alloc (by simp) _
  have Hb := Lib.hid hb1; have Hs := Lib.hid hs
  have q2 := str_beq t t2
  have q3 := str_beq d d2
  clear hb1 hs
  by_cases h1 : i = i2
  · have e1 : (i == i2) = true := by simpa using h1
    rw [decide_eq_true h1]
    by_cases h2 : t = t2
    · rw [decide_eq_true h2] at q2
      rw [decide_eq_true h2]
      by_cases h3 : d = d2
      · rw [decide_eq_true h3] at q3
        rw [decide_eq_true h3]
        generalize decide (canB v = canB v2) = x at Hs ⊢
        clear h1 h2 h3
        go_enter Try.func21, Try.ntmps21
        go_wp2_with fail
        refine (Hs.out _).mono ?_
        rintro e w1 ⟨rfl, rfl⟩
        go_wp2_with fail
        go_ret
        exact ⟨rfl, Hb.out⟩
      · rw [decide_eq_false h3] at q3
        rw [decide_eq_false h3]
        clear h1 h2 h3
        go_enter Try.func21, Try.ntmps21
        go_wp2_with fail
        go_ret
        exact ⟨rfl, Hb.out⟩
    · rw [decide_eq_false h2] at q2
      rw [decide_eq_false h2]
      clear h1 h2 q3
      go_enter Try.func21, Try.ntmps21
      go_wp2_with fail
      go_ret
      exact ⟨rfl, Hb.out⟩
  · have e1 : (i == i2) = false := by simpa using h1
    rw [decide_eq_false h1]
    clear h1 q2 q3
    go_enter Try.func21, Try.ntmps21
    go_wp2_with fail
    go_ret
    exact ⟨rfl, Hb.out⟩
end Go.Proofs.Ytfpalamoaflilaa
