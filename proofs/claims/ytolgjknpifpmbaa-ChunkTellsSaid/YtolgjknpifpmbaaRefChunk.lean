/- chronicleref7: Start, Record, Finish, Room, walked. -/
import Derived.Test.YtolgjknpifpmbaaRefFrame
import Derived.Test.YtolgjknpifpmbaaChunk
namespace Go.Proofs.Ytolgjknpifpmbaa
open Go.RowKit
set_option maxHeartbeats 1000000
set_option maxRecDepth 100000
set_option linter.unusedVariables false

theorem be64_nat (k : Nat) (h : k < 9223372036854775808) : beBytes 8 k = be64 (k : Int) := by
  unfold be64 u64of
  congr 1
  omega

theorem refStart_any (n s : Int) (w : World) (hs : -9223372036854775808 ≤ s ∧ s ≤ 9223372036854775807) :
    Calls Try.prog 15 #[.int .i64 n, .int .i64 s] w fun e w' => e = .returned (.tuple #[.string ⟨(startL n s).1.toArray⟩, .int .i64 (startL n s).2]) ∧ Below w.heap.size w w' := by
  obtain ⟨hs1, hs2⟩ := hs
  by_cases a : 0 ≤ n ∧ n ≤ 999999 ∧ 100 ≤ s ∧ s ≤ 1000000
  · obtain ⟨a1, a2, a3, a4⟩ := a
    have hv : startL n s = (frameL (startB n s), 0) := by unfold startL; rw [if_pos ⟨⟨a1, a2⟩, a3, a4⟩]
    have hp := putL_ok' (b := startB n s) (by rw [startB_length]; decide)
    obtain ⟨k, rfl⟩ := Int.eq_ofNat_of_zero_le a1
    obtain ⟨m, rfl⟩ := Int.eq_ofNat_of_zero_le (show 0 ≤ s by omega)
    have h1 := be64_nat k (by omega)
    have h2 := be64_nat m (by omega)
    have hl1 := be64_length (k : Int)
    have hl2 := be64_length (m : Int)
    have hsb : startB (k : Int) (m : Int) = [0, 67, 72, 78, 75] ++ (be64 (k : Int) ++ be64 (m : Int)) := rfl
    generalize be64 (k : Int) = X at h1 hl1 hsb
    generalize be64 (m : Int) = Y at h2 hl2 hsb
    have hX : X.length ≤ 8 := by omega
    have hY : Y.length ≤ 8 := by omega
    have Hv := Lib.hid hv; have Hp := Lib.hid hp; have H1 := Lib.hid h1; have H2 := Lib.hid h2; have Hsb := Lib.hid hsb
    clear hv hp h1 h2 hl1 hl2 hsb
    go_enter Try.func15, Try.ntmps15
    go_wp2_with fail
    refine (refNumber_any k 8 _ (by omega) (by omega)).mono ?_
    rintro e w1 ⟨rfl, hb1⟩
    rw [H1.out]
    go_wp2_with fail
    refine (refNumber_any m 8 _ (by omega) (by omega)).mono ?_
    rintro e w2 ⟨rfl, hb2⟩
    rw [H2.out]
    go_wp2_with fail
    refine (refFrame_any _ _ (by simp only [ByteArray.size_append, size_mk]; show 5 + X.length + Y.length ≤ _; omega)).mono ?_
    rintro e w3 ⟨rfl, hb3⟩
    rw [show (⟨#[0, 67, 72, 78, 75]⟩ ++ ⟨X.toArray⟩ ++ ⟨Y.toArray⟩ : ByteArray).data.toList = startB (k : Int) (m : Int) from by rw [Hsb.out]; simp, Hp.out]
    go_wp2_with fail
    go_ret2
    rw [Hv.out]
    have h12 := hb1.trans (hb2.mono hb1.size)
    exact ⟨rfl, h12.trans (hb3.mono h12.size)⟩
  · have hv : startL n s = ([], 1) := by unfold startL; rw [if_neg (by rintro ⟨⟨h1, h2⟩, h3, h4⟩; exact a ⟨h1, h2, h3, h4⟩)]
    have Hv := Lib.hid hv; clear hv
    have hc : n < 0 ∨ (0 ≤ n ∧ 999999 < n) ∨ (0 ≤ n ∧ n ≤ 999999 ∧ s < 100) ∨ (0 ≤ n ∧ n ≤ 999999 ∧ 100 ≤ s ∧ 1000000 < s) := by omega
    clear a
    rcases hc with b1 | ⟨b1, b2⟩ | ⟨b1, b2, b3⟩ | ⟨b1, b2, b3, b4⟩
    all_goals
      go_enter Try.func15, Try.ntmps15
      go_wp2_with fail
      go_ret2
      rw [Hv.out]
      exact ⟨rfl, Below.refl _ _⟩

theorem refFinish_any (n s : Int) (w : World) (hs : -9223372036854775808 ≤ s ∧ s ≤ 9223372036854775807) :
    Calls Try.prog 17 #[.int .i64 n, .int .i64 s] w fun e w' => e = .returned (.tuple #[.string ⟨(finishL n s).1.toArray⟩, .int .i64 (finishL n s).2]) ∧ Below w.heap.size w w' := by
  obtain ⟨hs1, hs2⟩ := hs
  by_cases a : 0 ≤ n ∧ n ≤ 999999 ∧ 0 ≤ s
  · obtain ⟨a1, a2, a3⟩ := a
    have hv : finishL n s = (frameL (finishB n s), 0) := by unfold finishL; rw [if_pos ⟨⟨a1, a2⟩, a3⟩]
    have hp := putL_ok' (b := finishB n s) (by rw [finishB_length]; decide)
    obtain ⟨k, rfl⟩ := Int.eq_ofNat_of_zero_le a1
    obtain ⟨m, rfl⟩ := Int.eq_ofNat_of_zero_le a3
    have h1 := be64_nat k (by omega)
    have h2 := be64_nat m (by omega)
    have hl1 := be64_length (k : Int)
    have hl2 := be64_length (m : Int)
    have hsb : finishB (k : Int) (m : Int) = [2, 68, 79, 78, 69] ++ (be64 (k : Int) ++ be64 (m : Int)) := rfl
    generalize be64 (k : Int) = X at h1 hl1 hsb
    generalize be64 (m : Int) = Y at h2 hl2 hsb
    have hX : X.length ≤ 8 := by omega
    have hY : Y.length ≤ 8 := by omega
    have Hv := Lib.hid hv; have Hp := Lib.hid hp; have H1 := Lib.hid h1; have H2 := Lib.hid h2; have Hsb := Lib.hid hsb
    clear hv hp h1 h2 hl1 hl2 hsb
    go_enter Try.func17, Try.ntmps17
    go_wp2_with fail
    refine (refNumber_any k 8 _ (by omega) (by omega)).mono ?_
    rintro e w1 ⟨rfl, hb1⟩
    rw [H1.out]
    go_wp2_with fail
    refine (refNumber_any m 8 _ (by omega) (by omega)).mono ?_
    rintro e w2 ⟨rfl, hb2⟩
    rw [H2.out]
    go_wp2_with fail
    refine (refFrame_any _ _ (by simp only [ByteArray.size_append, size_mk]; show 5 + X.length + Y.length ≤ _; omega)).mono ?_
    rintro e w3 ⟨rfl, hb3⟩
    rw [show (⟨#[2, 68, 79, 78, 69]⟩ ++ ⟨X.toArray⟩ ++ ⟨Y.toArray⟩ : ByteArray).data.toList = finishB (k : Int) (m : Int) from by rw [Hsb.out]; simp, Hp.out]
    go_wp2_with fail
    go_ret2
    rw [Hv.out]
    have h12 := hb1.trans (hb2.mono hb1.size)
    exact ⟨rfl, h12.trans (hb3.mono h12.size)⟩
  · have hv : finishL n s = ([], 1) := by unfold finishL; rw [if_neg (by rintro ⟨⟨h1, h2⟩, h3⟩; exact a ⟨h1, h2, h3⟩)]
    have Hv := Lib.hid hv; clear hv
    have hc : n < 0 ∨ (0 ≤ n ∧ 999999 < n) ∨ (0 ≤ n ∧ n ≤ 999999 ∧ s < 0) := by omega
    clear a
    rcases hc with b1 | ⟨b1, b2⟩ | ⟨b1, b2, b3⟩
    all_goals
      go_enter Try.func17, Try.ntmps17
      go_wp2_with fail
      go_ret2
      rw [Hv.out]
      exact ⟨rfl, Below.refl _ _⟩

theorem refRecord_any (s : ByteArray) (w : World) (hs : s.size ≤ 900000000) :
    Calls Try.prog 16 #[.string s] w fun e w' => e = .returned (.tuple #[.string ⟨(putL (1 :: s.data.toList)).1.toArray⟩, .int .i64 (putL (1 :: s.data.toList)).2]) ∧ Below w.heap.size w w' := by
  have hsl := size_list s
  by_cases a : s.size ≤ 3999
  · have hx : (⟨#[1]⟩ ++ s : ByteArray).data.toList = 1 :: s.data.toList := by simp
    have Hx := Lib.hid hx; clear hx hsl
    go_enter Try.func16, Try.ntmps16
    go_wp2_with fail
    refine (refFrame_any _ _ (by rw [ByteArray.size_append]; show 1 + s.size ≤ _; omega)).mono ?_
    rintro e w2 ⟨rfl, hb2⟩
    rw [Hx.out]
    go_wp2_with fail
    go_ret2
    exact ⟨rfl, hb2⟩
  · have hv : putL (1 :: s.data.toList) = ([], 2) := by unfold putL; rw [if_pos (by rw [List.length_cons]; omega)]
    have Hv := Lib.hid hv; clear hv hsl
    have a' : 3999 < s.size := by omega
    go_enter Try.func16, Try.ntmps16
    go_wp2_with fail
    go_ret2
    rw [Hv.out]
    exact ⟨rfl, Below.refl _ _⟩

theorem refRoom_any (size used : Int) (w : World) (h1 : -9223372036854775808 ≤ size ∧ size ≤ 9223372036854775807) (h2 : -9223372036854775808 ≤ used ∧ used ≤ 9223372036854775807) :
    Calls Try.prog 18 #[.int .i64 size, .int .i64 used] w fun e w' => e = .returned (.int .i64 (roomL size used)) ∧ w = w' := by
  obtain ⟨h1a, h1b⟩ := h1
  obtain ⟨h2a, h2b⟩ := h2
  by_cases a : 0 ≤ size ∧ 0 ≤ used ∧ used ≤ size ∧ 13 ≤ size - used
  · obtain ⟨a1, a2, a3, a4⟩ := a
    have hv : roomL size used = min (size - used - 13) 3999 := by unfold roomL; rw [if_neg (by omega)]; omega
    have Hv := Lib.hid hv; clear hv
    go_enter Try.func18, Try.ntmps18
    go_wp2_with fail
    go_ret
    rw [Hv.out]
    exact ⟨rfl, rfl⟩
  · have hv : roomL size used = 0 := by
      unfold roomL
      split
      · rfl
      · omega
    have Hv := Lib.hid hv; clear hv
    have hc : size < 0 ∨ (0 ≤ size ∧ used < 0) ∨ (0 ≤ size ∧ 0 ≤ used ∧ size < used) ∨ (0 ≤ size ∧ 0 ≤ used ∧ used ≤ size ∧ size - used < 13) := by omega
    clear a
    rcases hc with b1 | ⟨b1, b2⟩ | ⟨b1, b2, b3⟩ | ⟨b1, b2, b3, b4⟩
    all_goals
      go_enter Try.func18, Try.ntmps18
      go_wp2_with fail
      go_ret
      rw [Hv.out]
      exact ⟨rfl, rfl⟩
end Go.Proofs.Ytolgjknpifpmbaa

