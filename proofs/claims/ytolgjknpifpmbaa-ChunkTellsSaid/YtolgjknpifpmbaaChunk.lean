/- package chunk: two, Start, Record, Finish, Room, walked. -/
import Derived.Test.YtolgjknpifpmbaaChunkLaw
import Derived.Test.YtolgjknpifpmbaaFrame
namespace Go.Proofs.Ytolgjknpifpmbaa
open Go.RowKit
set_option maxHeartbeats 400000
set_option maxRecDepth 100000
set_option linter.unusedVariables false

theorem two_any (a b : Int) (w : World) :
    Calls Try.prog 25 #[.int .i64 a, .int .i64 b] w fun e w' => e = .returned (.string ⟨(twoL a b).toArray⟩) ∧ Below w.heap.size w w' := by
  go_enter Try.func25, Try.ntmps25
  go_wp2_with fail
  refine (outI64_any w.heap.size w.heap.size a [] _ (out_new' w) (by simp <;> omega) (by simp)).mono ?_
  rintro e w2 ⟨rfl, ho2, hb2⟩
  have Ho2 := Lib.hid ho2; clear ho2
  have hbb : Below w.heap.size w w2 := ((Below.refl _ _).alloc (Nat.le_refl _) _).trans hb2
  clear hb2
  go_wp2_with fail
  refine (outI64_any w.heap.size w.heap.size b _ _ Ho2.out hbb.size (by simp [be64_length])).mono ?_
  rintro e w3 ⟨rfl, ho3, hb3⟩
  have Ho3 := Lib.hid ho3; clear ho3
  go_wp2_with fail
  refine (done_ok w.heap.size w.heap.size _ _ Ho3.out).mono ?_
  rintro e w4 ⟨rfl, rfl⟩
  go_wp2_with fail
  go_ret
  exact ⟨rfl, hbb.trans hb3⟩

/-- may a number be a chunk's? -/
def rightB (n : Int) : Bool := decide (0 ≤ n ∧ n ≤ 999999)
theorem right_any (n : Int) (w : World) :
    Calls Try.prog 23 #[.int .i64 n] w fun e w' => e = .returned (.bool (rightB n)) ∧ w = w' := by
  by_cases h0 : 0 ≤ n
  · have hv : rightB n = decide (n ≤ 999999) := by unfold rightB; rw [decide_eq_decide]; omega
    rw [hv]
    clear hv
    go_enter Try.func23, Try.ntmps23
    go_wp2_with fail
    go_ret
    exact ⟨rfl, rfl⟩
  · have hv : rightB n = false := by unfold rightB; rw [decide_eq_false_iff_not]; omega
    rw [hv]
    have h0' : n < 0 := by omega
    clear hv
    go_enter Try.func23, Try.ntmps23
    go_wp2_with fail
    go_ret
    exact ⟨rfl, rfl⟩

theorem start_any (n s : Int) (w : World) :
    Calls Try.prog 9 #[.int .i64 n, .int .i64 s] w fun e w' => e = .returned (.tuple #[.string ⟨(startL n s).1.toArray⟩, .int .i64 (startL n s).2]) ∧ Below w.heap.size w w' := by
  have hsplit : (rightB n = true ∧ 100 ≤ s ∧ s ≤ 1000000) ∨ (rightB n = false ∨ ¬ (100 ≤ s ∧ s ≤ 1000000)) := by
    cases rightB n with
    | true => by_cases h : (100 ≤ s ∧ s ≤ 1000000) <;> simp [h]
    | false => simp
  rcases hsplit with ⟨hn, hc⟩ | hbad
  · have hv : startL n s = (frameL (startB n s), 0) := by unfold startL; rw [if_pos ⟨by simpa [rightB] using hn, hc⟩]
    have hp := putL_ok' (b := startB n s) (by rw [startB_length]; decide)
    have h16 := twoL_length n s
    have hx : (⟨#[0, 67, 72, 78, 75]⟩ ++ ⟨(twoL n s).toArray⟩ : ByteArray).data.toList = startB n s := by simp [startB]
    have Hv := Lib.hid hv; have Hp := Lib.hid hp; have Hx := Lib.hid hx; have Hn := Lib.hid hn
    have h16' : (twoL n s).length ≤ 16 := by omega
    have hc0 : 100 ≤ s := by omega
    have hc1 : s ≤ 1000000 := by omega
    clear hv hp h16 hx hn hc
    go_enter Try.func9, Try.ntmps9
    go_wp2_with fail
    refine (right_any n _).mono ?_
    rintro e w1 ⟨rfl, rfl⟩
    rw [Hn.out]
    go_wp2_with fail
    refine (two_any n s _).mono ?_
    rintro e w1 ⟨rfl, hb1⟩
    go_wp2_with fail
    refine (fput_any _ _ (by rw [ByteArray.size_append, size_mk]; show 5 + (twoL n s).length ≤ _; omega)).mono ?_
    rintro e w2 ⟨rfl, hb2⟩
    rw [Hx.out, Hp.out]
    go_wp2_with fail
    go_ret2
    rw [Hv.out]
    exact ⟨rfl, hb1.trans (hb2.mono hb1.size)⟩
  · have hv : startL n s = ([], 1) := by
      unfold startL; rw [if_neg]; rintro ⟨h1, h2⟩
      rcases hbad with h | h
      · simp [rightB] at h; omega
      · exact h h2
    have Hv := Lib.hid hv; clear hv
    cases hr : rightB n with
    | false =>
      have Hr := Lib.hid hr; clear hr hbad
      go_enter Try.func9, Try.ntmps9
      go_wp2_with fail
      refine (right_any n _).mono ?_
      rintro e w1 ⟨rfl, rfl⟩
      rw [Hr.out]
      go_wp2_with fail
      go_ret2
      rw [Hv.out]
      exact ⟨rfl, Below.refl _ _⟩
    | true =>
      have hc : ¬ (100 ≤ s ∧ s ≤ 1000000) := hbad.resolve_left (by rw [hr]; decide)
      have Hr := Lib.hid hr; clear hr hbad
      by_cases g : 100 ≤ s
      · have hc1 : 1000000 < s := by omega
        clear hc
        go_enter Try.func9, Try.ntmps9
        go_wp2_with fail
        refine (right_any n _).mono ?_
        rintro e w1 ⟨rfl, rfl⟩
        rw [Hr.out]
        go_wp2_with fail
        go_ret2
        rw [Hv.out]
        exact ⟨rfl, Below.refl _ _⟩
      · have hc0 : s < 100 := by omega
        clear hc g
        go_enter Try.func9, Try.ntmps9
        go_wp2_with fail
        refine (right_any n _).mono ?_
        rintro e w1 ⟨rfl, rfl⟩
        rw [Hr.out]
        go_wp2_with fail
        go_ret2
        rw [Hv.out]
        exact ⟨rfl, Below.refl _ _⟩

theorem finish_any (n s : Int) (w : World) :
    Calls Try.prog 11 #[.int .i64 n, .int .i64 s] w fun e w' => e = .returned (.tuple #[.string ⟨(finishL n s).1.toArray⟩, .int .i64 (finishL n s).2]) ∧ Below w.heap.size w w' := by
  have hsplit : (rightB n = true ∧ 0 ≤ s) ∨ (rightB n = false ∨ ¬ (0 ≤ s)) := by
    cases rightB n with
    | true => by_cases h : (0 ≤ s) <;> simp [h]
    | false => simp
  rcases hsplit with ⟨hn, hc⟩ | hbad
  · have hv : finishL n s = (frameL (finishB n s), 0) := by unfold finishL; rw [if_pos ⟨by simpa [rightB] using hn, hc⟩]
    have hp := putL_ok' (b := finishB n s) (by rw [finishB_length]; decide)
    have h16 := twoL_length n s
    have hx : (⟨#[2, 68, 79, 78, 69]⟩ ++ ⟨(twoL n s).toArray⟩ : ByteArray).data.toList = finishB n s := by simp [finishB]
    have Hv := Lib.hid hv; have Hp := Lib.hid hp; have Hx := Lib.hid hx; have Hn := Lib.hid hn
    have h16' : (twoL n s).length ≤ 16 := by omega
    have hc0 : 0 ≤ s := by omega
    clear hv hp h16 hx hn hc
    go_enter Try.func11, Try.ntmps11
    go_wp2_with fail
    refine (right_any n _).mono ?_
    rintro e w1 ⟨rfl, rfl⟩
    rw [Hn.out]
    go_wp2_with fail
    refine (two_any n s _).mono ?_
    rintro e w1 ⟨rfl, hb1⟩
    go_wp2_with fail
    refine (fput_any _ _ (by rw [ByteArray.size_append, size_mk]; show 5 + (twoL n s).length ≤ _; omega)).mono ?_
    rintro e w2 ⟨rfl, hb2⟩
    rw [Hx.out, Hp.out]
    go_wp2_with fail
    go_ret2
    rw [Hv.out]
    exact ⟨rfl, hb1.trans (hb2.mono hb1.size)⟩
  · have hv : finishL n s = ([], 1) := by
      unfold finishL; rw [if_neg]; rintro ⟨h1, h2⟩
      rcases hbad with h | h
      · simp [rightB] at h; omega
      · exact h h2
    have Hv := Lib.hid hv; clear hv
    cases hr : rightB n with
    | false =>
      have Hr := Lib.hid hr; clear hr hbad
      go_enter Try.func11, Try.ntmps11
      go_wp2_with fail
      refine (right_any n _).mono ?_
      rintro e w1 ⟨rfl, rfl⟩
      rw [Hr.out]
      go_wp2_with fail
      go_ret2
      rw [Hv.out]
      exact ⟨rfl, Below.refl _ _⟩
    | true =>
      have hc : ¬ (0 ≤ s) := hbad.resolve_left (by rw [hr]; decide)
      have Hr := Lib.hid hr; clear hr hbad
      have hc0 : s < 0 := by omega
      clear hc
      go_enter Try.func11, Try.ntmps11
      go_wp2_with fail
      refine (right_any n _).mono ?_
      rintro e w1 ⟨rfl, rfl⟩
      rw [Hr.out]
      go_wp2_with fail
      go_ret2
      rw [Hv.out]
      exact ⟨rfl, Below.refl _ _⟩

theorem record_any (s : ByteArray) (w : World) (hs : s.size ≤ 900000000) :
    Calls Try.prog 10 #[.string s] w fun e w' => e = .returned (.tuple #[.string ⟨(putL (1 :: s.data.toList)).1.toArray⟩, .int .i64 (putL (1 :: s.data.toList)).2]) ∧ Below w.heap.size w w' := by
  have hx : (⟨#[1]⟩ ++ s : ByteArray).data.toList = 1 :: s.data.toList := by simp
  have Hx := Lib.hid hx; clear hx
  go_enter Try.func10, Try.ntmps10
  go_wp2_with fail
  refine (fput_any _ _ (by rw [ByteArray.size_append]; show 1 + s.size ≤ _; omega)).mono ?_
  rintro e w2 ⟨rfl, hb2⟩
  rw [Hx.out]
  go_wp2_with fail
  go_ret2
  exact ⟨rfl, hb2⟩

/-- how much room there is -/
def roomL (size used : Int) : Int := if size < 0 ∨ used < 0 ∨ size < used then 0 else min (max (size - used - 12 - 1) 0) 3999
theorem chunkRoom_any (size used : Int) (w : World) (h1 : -9223372036854775808 ≤ size ∧ size ≤ 9223372036854775807) (h2 : -9223372036854775808 ≤ used ∧ used ≤ 9223372036854775807) :
    Calls Try.prog 14 #[.int .i64 size, .int .i64 used] w fun e w' => e = .returned (.int .i64 (roomL size used)) ∧ w = w' := by
  obtain ⟨h1a, h1b⟩ := h1
  obtain ⟨h2a, h2b⟩ := h2
  by_cases a : 0 ≤ size
  · by_cases b : 0 ≤ used
    · by_cases c : used ≤ size
      · have hv : roomL size used = min (max (size - used - 12 - 1) 0) 3999 := by unfold roomL; rw [if_neg (by omega)]
        have Hv := Lib.hid hv; clear hv
        go_enter Try.func14, Try.ntmps14
        go_wp2_with fail
        go_ret
        rw [Hv.out]
        exact ⟨rfl, rfl⟩
      · have hv : roomL size used = 0 := by unfold roomL; rw [if_pos (by omega)]
        have Hv := Lib.hid hv; clear hv
        have c' : size < used := by omega
        go_enter Try.func14, Try.ntmps14
        go_wp2_with fail
        go_ret
        rw [Hv.out]
        exact ⟨rfl, rfl⟩
    · have hv : roomL size used = 0 := by unfold roomL; rw [if_pos (by omega)]
      have Hv := Lib.hid hv; clear hv
      have b' : used < 0 := by omega
      go_enter Try.func14, Try.ntmps14
      go_wp2_with fail
      go_ret
      rw [Hv.out]
      exact ⟨rfl, rfl⟩
  · have hv : roomL size used = 0 := by unfold roomL; rw [if_pos (by omega)]
    have Hv := Lib.hid hv; clear hv
    have a' : size < 0 := by omega
    go_enter Try.func14, Try.ntmps14
    go_wp2_with fail
    go_ret
    rw [Hv.out]
    exact ⟨rfl, rfl⟩
end Go.Proofs.Ytolgjknpifpmbaa
