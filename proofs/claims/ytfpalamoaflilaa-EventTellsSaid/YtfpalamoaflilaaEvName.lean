/- chapter 7: may a text be a name? -/
import Derived.Test.YtfpalamoaflilaaEvLaw
import Derived.RegionTactic
import Derived.Deep.QuietTactic
import Derived.BigQuiet
import Derived.Deep.RegionWith
namespace Go.Proofs.Ytfpalamoaflilaa
open Go.RowKit
set_option maxHeartbeats 1000000
set_option linter.unusedVariables false

theorem take_next (s : ByteArray) (k : Nat) (h : k < s.size) : s.data.toList.take (k + 1) = s.data.toList.take k ++ [s[k]] := by
  rw [List.take_succ_eq_append_getElem (by simpa using h)]; rfl
theorem nameC_no {s : ByteArray} {k : Nat} (h : k < s.size) (hc : nameC s[k] = false) : nameB s = false := by
  unfold nameB
  have : s.data.toList.all nameC = false := by
    rw [List.all_eq_false]
    exact ⟨s[k], List.mem_of_getElem? (i := k) (by rw [List.getElem?_eq_getElem (by simpa using h)]; rfl), by rw [hc]; simp⟩
  rw [this, Bool.and_false]

theorem stream_any (s : ByteArray) (w : World) (hs : s.size ≤ 9223372036854775807) :
    Calls Try.prog 35 #[.string s] w fun e w' => e = .returned (.bool (nameB s)) ∧ w = w' := by
  by_cases h1 : s.size < 1
  · have hv : nameB s = false := by unfold nameB; rw [decide_eq_false (show ¬ 1 ≤ s.size by omega)]; rfl
    rw [hv]
    go_enter Try.func35, Try.ntmps35
    go_wp2
    go_ret
    exact ⟨rfl, rfl⟩
  · by_cases h2 : 60 < s.size
    · have hv : nameB s = false := by unfold nameB; rw [decide_eq_false (show ¬ s.size ≤ 60 by omega)]; simp
      rw [hv]
      have h1' : 1 ≤ s.size := by omega
      have h1d : decide ((s.size : Int) < 1) = false := decide_eq_false (by omega)
      go_enter Try.func35, Try.ntmps35
      go_wp2
      go_ret
      exact ⟨rfl, rfl⟩
    · have h1d : decide ((s.size : Int) < 1) = false := decide_eq_false (by omega)
      have h2d : decide ((60 : Int) < (s.size : Int)) = false := decide_eq_false (by omega)
      go_enter Try.func35, Try.ntmps35
      go_wp2
      go_loop [14] (fun i => ∃ m : Nat, m ≤ s.size ∧ i = .int .i64 m ∧ (s.data.toList.take m).all nameC = true) (fun i => s.size - (intOf i).toNat)
      case atStart => exact ⟨0, Nat.zero_le _, rfl, rfl⟩
      case round =>
        obtain ⟨m, hm, rfl, hall⟩ := hrel
        have Hall := Lib.hid hall; clear hall
        by_cases hlm : m < s.size
        · cases hc : nameC s[m] with
          | true =>
            have Hc := Lib.hid hc
            unfold nameC at hc
            simp only [Bool.not_eq_true', Bool.or_eq_false_iff, decide_eq_false_iff_not] at hc
            obtain ⟨⟨c1, c2⟩, c3⟩ := hc
            have d1 : decide ((s[m].toNat : Int) < 33) = false := decide_eq_false (by omega)
            have d2 : decide ((126 : Int) < (s[m].toNat : Int)) = false := decide_eq_false (by omega)
            have d3 : ((s[m].toNat : Int) == 64) = false := by rw [beq_eq_false_iff_ne]; omega
            clear c1 c2 c3
            go_wp2
            go_round
            case rel => exact ⟨m + 1, by omega, by go_num, by rw [take_next s m hlm, List.all_append, Hall.out, List.all_cons, Hc.out]; rfl⟩
            case measure => simp [intOf]; omega
          | false =>
            have hv := nameC_no hlm hc
            have Hv := Lib.hid hv
            clear hv
            unfold nameC at hc
            simp only [Bool.not_eq_false', Bool.or_eq_true] at hc
            simp only [decide_eq_true_eq] at hc
            by_cases c1 : s[m].toNat < 33
            · have d1 : decide ((s[m].toNat : Int) < 33) = true := decide_eq_true (by omega)
              clear hc c1
              go_wp2
              go_ret
              exact ⟨by rw [Hv.out]; rfl, rfl⟩
            · have d1 : decide ((s[m].toNat : Int) < 33) = false := decide_eq_false (by omega)
              by_cases c2 : 126 < s[m].toNat
              · have d2 : decide ((126 : Int) < (s[m].toNat : Int)) = true := decide_eq_true (by omega)
                clear hc c1 c2
                go_wp2
                go_ret
                exact ⟨by rw [Hv.out]; rfl, rfl⟩
              · have d2 : decide ((126 : Int) < (s[m].toNat : Int)) = false := decide_eq_false (by omega)
                have d3 : ((s[m].toNat : Int) == 64) = true := by rw [beq_iff_eq]; omega
                clear hc c1 c2
                go_wp2
                go_ret
                exact ⟨by rw [Hv.out]; rfl, rfl⟩
        · obtain rfl : m = s.size := by omega
          have hv : nameB s = true := by
            have := Hall.out
            rw [List.take_of_length_le (by rw [← size_list]; exact Nat.le_refl _)] at this
            unfold nameB
            rw [this, decide_eq_true (show 1 ≤ s.size by omega), decide_eq_true (show s.size ≤ 60 by omega)]; rfl
          have Hv := Lib.hid hv
          clear hv
          go_wp2
          go_ret
          exact ⟨by rw [Hv.out]; rfl, rfl⟩

theorem refStream_any (s : ByteArray) (w : World) (hs : s.size ≤ 9223372036854775807) :
    Calls Try.prog 45 #[.string s] w fun e w' => e = .returned (.bool (nameB s)) ∧ w = w' := by
  by_cases h1 : s.size < 1
  · have hv : nameB s = false := by unfold nameB; rw [decide_eq_false (show ¬ 1 ≤ s.size by omega)]; rfl
    rw [hv]
    go_enter Try.func45, Try.ntmps45
    go_wp2
    go_ret
    exact ⟨rfl, rfl⟩
  · by_cases h2 : 60 < s.size
    · have hv : nameB s = false := by unfold nameB; rw [decide_eq_false (show ¬ s.size ≤ 60 by omega)]; simp
      rw [hv]
      have h1' : 1 ≤ s.size := by omega
      have h1d : decide ((s.size : Int) < 1) = false := decide_eq_false (by omega)
      go_enter Try.func45, Try.ntmps45
      go_wp2
      go_ret
      exact ⟨rfl, rfl⟩
    · have h1d : decide ((s.size : Int) < 1) = false := decide_eq_false (by omega)
      have h2d : decide ((60 : Int) < (s.size : Int)) = false := decide_eq_false (by omega)
      go_enter Try.func45, Try.ntmps45
      go_wp2
      go_loop [3] (fun i => ∃ m : Nat, m ≤ s.size ∧ i = .int .i64 m ∧ (s.data.toList.take m).all nameC = true) (fun i => s.size - (intOf i).toNat)
      case atStart => exact ⟨0, Nat.zero_le _, rfl, rfl⟩
      case round =>
        obtain ⟨m, hm, rfl, hall⟩ := hrel
        have Hall := Lib.hid hall; clear hall
        by_cases hlm : m < s.size
        · cases hc : nameC s[m] with
          | true =>
            have Hc := Lib.hid hc
            unfold nameC at hc
            simp only [Bool.not_eq_true', Bool.or_eq_false_iff, decide_eq_false_iff_not] at hc
            obtain ⟨⟨c1, c2⟩, c3⟩ := hc
            have d1 : decide ((s[m].toNat : Int) < 33) = false := decide_eq_false (by omega)
            have d2 : decide ((126 : Int) < (s[m].toNat : Int)) = false := decide_eq_false (by omega)
            have d3 : ((s[m].toNat : Int) == 64) = false := by rw [beq_eq_false_iff_ne]; omega
            clear c1 c2 c3
            go_wp2
            go_round
            case rel => exact ⟨m + 1, by omega, by go_num, by rw [take_next s m hlm, List.all_append, Hall.out, List.all_cons, Hc.out]; rfl⟩
            case measure => simp [intOf]; omega
          | false =>
            have hv := nameC_no hlm hc
            have Hv := Lib.hid hv
            clear hv
            unfold nameC at hc
            simp only [Bool.not_eq_false', Bool.or_eq_true] at hc
            simp only [decide_eq_true_eq] at hc
            by_cases c1 : s[m].toNat < 33
            · have d1 : decide ((s[m].toNat : Int) < 33) = true := decide_eq_true (by omega)
              clear hc c1
              go_wp2
              go_ret
              exact ⟨by rw [Hv.out]; rfl, rfl⟩
            · have d1 : decide ((s[m].toNat : Int) < 33) = false := decide_eq_false (by omega)
              by_cases c2 : 126 < s[m].toNat
              · have d2 : decide ((126 : Int) < (s[m].toNat : Int)) = true := decide_eq_true (by omega)
                clear hc c1 c2
                go_wp2
                go_ret
                exact ⟨by rw [Hv.out]; rfl, rfl⟩
              · have d2 : decide ((126 : Int) < (s[m].toNat : Int)) = false := decide_eq_false (by omega)
                have d3 : ((s[m].toNat : Int) == 64) = true := by rw [beq_iff_eq]; omega
                clear hc c1 c2
                go_wp2
                go_ret
                exact ⟨by rw [Hv.out]; rfl, rfl⟩
        · obtain rfl : m = s.size := by omega
          have hv : nameB s = true := by
            have := Hall.out
            rw [List.take_of_length_le (by rw [← size_list]; exact Nat.le_refl _)] at this
            unfold nameB
            rw [this, decide_eq_true (show 1 ≤ s.size by omega), decide_eq_true (show s.size ≤ 60 by omega)]; rfl
          have Hv := Lib.hid hv
          clear hv
          go_wp2
          go_ret
          exact ⟨by rw [Hv.out]; rfl, rfl⟩

end Go.Proofs.Ytfpalamoaflilaa
