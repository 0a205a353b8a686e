/- The statements' helpers: lists of integers held against each other, lent with a mark. -/
import Derived.Test.YtfjilngofdahgaaRows
import Derived.Test.YtfjilngofdahgaaJIndexSaves1
import Derived.RegionTactic
import Derived.Deep.QuietTactic
import Derived.BigQuiet

namespace Go.Proofs.Ytfjilngofdahgaa
open Go.RowKit
set_option maxHeartbeats 1000000
set_option maxRecDepth 100000
set_option linter.unusedVariables false

theorem sameInts_any (B C n m cn cm : Nat) (A D : Option Addr) (ss ts : List Int) (w : World) (ha : SlR w B 1 A n (intVs ss)) (hb : SlR w C 1 D m (intVs ts))
    (hn : n ≤ 9223372036854775807) (hm : m ≤ 9223372036854775807) :
    Calls Try.prog 23 #[.slice A n cn, .slice D m cm] w fun e w' => e = .returned (.bool (decide (ss = ts))) ∧ ∃ k, w' = w.drewN k := by
  have hl := intVs_len ha
  have hl2 := intVs_len hb
  have Ha := Lib.hid ha; clear ha
  have Hb := Lib.hid hb; clear hb
  by_cases hne : n = m
  · subst hne
    have hnn : ((n : Int) != (n : Int)) = false := by simp
    have Hl := Lib.hid hl; have Hl2 := Lib.hid hl2; clear hl hl2
    go_enter Try.func23, Try.ntmps23
    go_wp2
    go_loopw [5] (fun i wr => ∃ k : Nat, k ≤ n ∧ i = .int .i64 k ∧ ss.take k = ts.take k ∧ ∃ q, wr = w.drewN q) (fun i _ => n - (intOf i).toNat)
    case atStart => exact ⟨0, Nat.zero_le _, rfl, rfl, 0, rfl⟩
    case round =>
      obtain ⟨k, hk, rfl, hst, q, rfl⟩ := hrel
      have Hst := Lib.hid hst; clear hst
      by_cases hlt : k < n
      · obtain ⟨ad, u, hA, _, hu, hcell⟩ := Ha.out.get hlt
        obtain ⟨ad2, u2, hA2, _, hu2, hcell2⟩ := Hb.out.get hlt
        subst hA hA2
        obtain ⟨s, hs, rfl⟩ := intVs_get hu
        obtain ⟨t, ht, rfl⟩ := intVs_get hu2
        have Hs := Lib.hid hs; have Ht := Lib.hid ht
        clear hs ht hu hu2
        have hlt1 : (k : Int) < (n : Int) := by omega
        have hk0 : 0 ≤ (k : Int) := by omega
        by_cases e : s = t
        · have d : (s == t) = true := by simpa using e
          have He := Lib.hid e; clear e
          go_wp2
          go_quiet (fail)
          go_wp2
          go_roundw
          case rel => exact ⟨k + 1, by omega, by go_num, by rw [List.take_add_one, List.take_add_one, Hst.out, Hs.out, Ht.out, He.out], _, rfl⟩
          case measure => simp [intOf]; omega
        · have d : (s == t) = false := by simpa using e
          have hv : decide (ss = ts) = false := by
            rw [decide_eq_false_iff_not]
            rintro rfl
            have h1 := Hs.out
            rw [Ht.out] at h1
            injection h1 with h1
            exact e h1.symm
          have Hv := Lib.hid hv
          clear e hv
          go_wp2
          go_quiet (fail)
          go_wp2
          go_ret
          rw [Hv.out]
          exact ⟨rfl, q + nq, by first | rfl | exact World.drewN_drewN _ _ _⟩
      · obtain rfl : k = n := by omega
        have hst : decide (ss = ts) = true := by
          rw [decide_eq_true_iff]
          have := Hst.out
          rw [List.take_of_length_le (by rw [Hl.out]; omega), List.take_of_length_le (by rw [Hl2.out]; omega)] at this
          exact this
        have Hd := Lib.hid hst; clear hst
        go_wp2
        go_ret
        rw [Hd.out]
        exact ⟨rfl, q, rfl⟩
  · have hnn : ((n : Int) != (m : Int)) = true := by rw [bne_iff_ne]; omega
    have hv : decide (ss = ts) = false := by
      rw [decide_eq_false_iff_not]; intro e; apply hne; rw [← hl, ← hl2, e]
    rw [hv]
    clear hl hl2 hv
    go_enter Try.func23, Try.ntmps23
    go_wp2
    go_ret
    exact ⟨rfl, 0, rfl⟩
end Go.Proofs.Ytfjilngofdahgaa
