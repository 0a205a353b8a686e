/- chapter 7: may an event be? may events be appended together? -/
import Derived.Test.YtfpalamoaflilaaEvName
import Derived.Test.YtfpalamoaflilaaEvRow
namespace Go.Proofs.Ytfpalamoaflilaa
open Go.RowKit
set_option maxHeartbeats 1000000
set_option maxRecDepth 100000
set_option linter.unusedVariables false
attribute [local go_sem] run_store_flt

theorem within_any (n : Int) (w : World) : Calls Try.prog 34 #[.int .i64 n] w fun e w' => e = .returned (.bool (withinB n)) ∧ w = w' := by
  by_cases h0 : n < 0
  · have hv : withinB n = false := decide_eq_false (by omega)
    rw [hv]
    have d0 : decide ((0 : Int) ≤ n) = false := decide_eq_false (by omega)
    clear h0
    go_enter Try.func34, Try.ntmps34
    go_wp2
    go_ret
    exact ⟨rfl, rfl⟩
  · have d0 : decide ((0 : Int) ≤ n) = true := decide_eq_true (by omega)
    by_cases h1 : n ≤ 1099511627776
    · have hv : withinB n = true := decide_eq_true (by omega)
      rw [hv]
      have d1 : decide (n ≤ 1099511627776) = true := decide_eq_true h1
      go_enter Try.func34, Try.ntmps34
      go_wp2
      go_ret
      exact ⟨rfl, rfl⟩
    · have hv : withinB n = false := decide_eq_false (by omega)
      rw [hv]
      have d1 : decide (n ≤ 1099511627776) = false := decide_eq_false h1
      go_enter Try.func34, Try.ntmps34
      go_wp2
      go_ret
      exact ⟨rfl, rfl⟩

theorem type_any (s : ByteArray) (w : World) (hs : s.size ≤ 9223372036854775807) : Calls Try.prog 39 #[.string s] w fun e w' => e = .returned (.bool (nameB s)) ∧ w = w' := by
  go_enter Try.func39, Try.ntmps39
  go_wp2_with fail
  refine (stream_any s _ hs).mono ?_
  rintro e w1 ⟨rfl, rfl⟩
  go_wp2_with fail
  go_ret
  exact ⟨rfl, rfl⟩

theorem valid_any (id : Int) (ty da : ByteArray) (va : Nat) (w : World) (ht : ty.size ≤ 9223372036854775807) (hd : da.size ≤ 9223372036854775807) :
    Calls Try.prog 13 #[.agg #[.int .i64 id, .string ty, .string da, .float .f64 va]] w fun e w' => e = .returned (.bool (validE ⟨id, ty, da, va⟩)) ∧ Below w.heap.size w w' := by
  have hb := (Below.refl w.heap.size w).alloc (Nat.le_refl _) (.cells #[.int .i64 id, .string ty, .string da, .float .f64 va] 33)
  have Hb := Lib.hid hb; clear hb
  have hn := fun w => type_any ty w ht
  have hv : validE ⟨id, ty, da, va⟩ = (decide (1 ≤ id) && nameB ty && decide (da.size ≤ 200)) := rfl
  rw [hv]
  clear hv
  by_cases h0 : 1 ≤ id
  · rw [decide_eq_true h0]
    have d0 : decide (1 ≤ id) = true := decide_eq_true h0
    cases hq : nameB ty with
    | false =>
      rw [hq] at hn
      have Hn := Lib.hid hn; clear hn hq
      go_enter Try.func13, Try.ntmps13
      go_wp2_with (go_at_call 39; refine (Hn.out _).mono ?_; rintro e w1 ⟨rfl, rfl⟩)
      go_ret
      exact ⟨rfl, Hb.out⟩
    | true =>
      rw [hq] at hn
      have Hn := Lib.hid hn; clear hn hq
      by_cases h1 : da.size ≤ 200
      · rw [decide_eq_true h1]
        have d1 : decide ((da.size : Int) ≤ 200) = true := decide_eq_true (by omega)
        go_enter Try.func13, Try.ntmps13
        go_wp2_with (go_at_call 39; refine (Hn.out _).mono ?_; rintro e w1 ⟨rfl, rfl⟩)
        go_ret
        exact ⟨rfl, Hb.out⟩
      · rw [decide_eq_false h1]
        have d1 : decide ((da.size : Int) ≤ 200) = false := decide_eq_false (by omega)
        go_enter Try.func13, Try.ntmps13
        go_wp2_with (go_at_call 39; refine (Hn.out _).mono ?_; rintro e w1 ⟨rfl, rfl⟩)
        go_ret
        exact ⟨rfl, Hb.out⟩
  · rw [decide_eq_false h0]
    have d0 : decide (1 ≤ id) = false := decide_eq_false h0
    clear hn
    go_enter Try.func13, Try.ntmps13
    go_wp2_with fail
    go_ret
    exact ⟨rfl, Hb.out⟩

theorem events_any (A : Option Addr) (n cap B : Nat) (l : List Ev) (w : World) (hr : SlR w B 4 A n (evVs l)) (hB : B ≤ w.heap.size) (hn : n ≤ 1000000000) (hf : ∀ e ∈ l, e.fits) :
    Calls Try.prog 36 #[.slice A n cap] w fun e w' => e = .returned (.int .i64 (evsErr l)) ∧ Below w.heap.size w w' := by
  have hl : l.length = n := by have := hr.len; rw [evVs_length] at this; omega
  by_cases h0 : n = 0
  · subst h0
    have hv : evsErr l = 1 := by unfold evsErr; rw [if_pos hl]
    rw [hv]
    clear hr
    go_enter Try.func36, Try.ntmps36
    go_wp2_with fail
    go_ret
    exact ⟨rfl, Below.refl _ _⟩
  · by_cases h1 : 8 < n
    · have hv : evsErr l = 2 := by unfold evsErr; rw [if_neg (by omega), if_pos (by omega)]
      rw [hv]
      clear hr
      have d0 : ((n : Int) == 0) = false := by rw [beq_eq_false_iff_ne]; omega
      have d1 : (8 : Int) < (n : Int) := by omega
      go_enter Try.func36, Try.ntmps36
      go_wp2_with fail
      go_ret
      exact ⟨rfl, Below.refl _ _⟩
    · have hv : evsErr l = if l.all validE = true then 0 else 1 := by unfold evsErr; rw [if_neg (by omega), if_neg (by omega)]
      obtain ⟨V, hV⟩ : ∃ V, evsErr l = V := ⟨_, rfl⟩
      rw [hV]
      rw [hV] at hv
      have Hv := Lib.hid hv
      clear hv hV
      have d0 : ((n : Int) == 0) = false := by rw [beq_eq_false_iff_ne]; omega
      have d1 : decide ((8 : Int) < (n : Int)) = false := decide_eq_false (by omega)
      have Hr := Lib.hid hr; have Hf := Lib.hid hf; have Hl := Lib.hid hl
      clear hr hf hl
      go_enter Try.func36, Try.ntmps36
      go_wp2_with fail
      go_loopw [15] (fun i wr => ∃ m : Nat, m ≤ n ∧ i = .int .i64 m ∧ (l.take m).all validE = true ∧ Below w.heap.size w wr) (fun i _ => n - (intOf i).toNat)
      case atStart => exact ⟨0, Nat.zero_le _, rfl, rfl, Below.refl _ _⟩
      case round =>
        obtain ⟨m, hm, rfl, hall, hb⟩ := hrel
        have Hall := Lib.hid hall; have Hb := Lib.hid hb
        clear hall hb
        by_cases hlm : m < n
        · obtain ⟨ad, ⟨id, ty, da, va⟩, rfl, hadB, hpk, hat⟩ := Hr.out.ev hlm
          have hat2 := hat.below Hb.out (by rw [add_block]; exact Nat.lt_of_lt_of_le hadB hB)
          have hfe := Hf.out _ (List.mem_of_getElem? hpk)
          obtain ⟨c0, c1, c2, c3⟩ := hat2
          have hsz := Hb.out.size
          have hbl : (ad.add (m * 4)).block < wr.heap.size := by rw [add_block]; omega
          have hval := fun w => valid_any id ty da va w hfe.t1 hfe.d1
          have hi1 : (m : Int) < n := by omega
          cases hvv : validE ⟨id, ty, da, va⟩ with
          | true =>
            rw [hvv] at hval
            have Hval := Lib.hid hval; have Hvv := Lib.hid hvv; have Hpk := Lib.hid hpk
            clear hval hvv hpk hfe hat
            go_wp2_with (go_at_call 13; refine (Hval.out _).mono ?_; rintro e w2 ⟨rfl, hb2⟩)
            go_roundw
            case rel => exact ⟨m + 1, by omega, by go_num, by
              have hk := (List.getElem?_eq_some_iff.mp Hpk.out).1
              rw [List.take_succ_eq_append_getElem hk, List.all_append, Hall.out, (List.getElem?_eq_some_iff.mp Hpk.out).2]
              simp [Hvv.out], (Hb.out.alloc Hb.out.size _).trans (hb2.mono (by simp; omega))⟩
            case measure => simp [intOf]; omega
          | false =>
            rw [hvv] at hval
            have hno : ¬ (l.all validE = true) := fun h => by
              rw [List.all_eq_true] at h
              have := h _ (List.mem_of_getElem? hpk)
              rw [hvv] at this; cases this
            obtain rfl : V = 1 := by rw [Hv.out, if_neg hno]
            have Hval := Lib.hid hval
            clear hval hvv hpk hfe hat hno
            go_wp2_with (go_at_call 13; refine (Hval.out _).mono ?_; rintro e w2 ⟨rfl, hb2⟩)
            go_ret
            exact ⟨rfl, (Hb.out.alloc Hb.out.size _).trans (hb2.mono (by simp; omega))⟩
        · obtain rfl : m = n := by omega
          have hyes : l.all validE = true := by have := Hall.out; rwa [List.take_of_length_le (by rw [Hl.out]; exact Nat.le_refl _)] at this
          obtain rfl : V = 0 := by rw [Hv.out, if_pos hyes]
          clear hyes
          go_wp2_with fail
          go_ret
          exact ⟨rfl, Hb.out⟩
end Go.Proofs.Ytfpalamoaflilaa
