/- chronicleref20.Majority, walked; two ballots are the same. -/
import Derived.Test.YtbcbjibbeieaiaaMaj
import Derived.Test.YtbcbjibbeieaiaaRefVote
import Derived.RegionTactic
import Derived.Deep.QuietTactic
import Derived.BigQuiet
namespace Go.Proofs.Ytbcbjibbeieaiaa
open Go.RowKit
set_option maxHeartbeats 2000000
set_option maxRecDepth 100000
set_option linter.unusedVariables false

theorem diffs_step (n : Int) (zs : List Int) (k : Nat) (z : Int) (h : zs[k]? = some z) :
    (diffs (inR n (zs.take (k + 1)))).length = (diffs (inR n (zs.take k))).length + if (decide (0 ≤ z) && decide (z < n) && !(zs.take k).contains z) = true then 1 else 0 := by
  by_cases hz : 0 ≤ z ∧ z < n
  · rw [inR_in n zs k z h hz, diffs_snoc, decide_eq_true hz.1, decide_eq_true hz.2]
    have hc : (diffs (inR n (zs.take k))).contains z = (zs.take k).contains z := by
      rw [Bool.eq_iff_iff, List.contains_iff_mem, List.contains_iff_mem, diffs_mem, inR_mem]
      exact ⟨fun h => h.1, fun h => ⟨h, hz⟩⟩
    unfold addD
    rw [hc]
    cases (zs.take k).contains z <;> simp
  · rw [inR_out n zs k z h hz]
    have : (decide (0 ≤ z) && decide (z < n)) = false := by
      rw [Bool.and_eq_false_iff, decide_eq_false_iff_not, decide_eq_false_iff_not]
      omega
    rw [this]
    simp
theorem take_contains (zs : List Int) (j : Nat) (y z : Int) (h : zs[j]? = some y) : (zs.take (j + 1)).contains z = ((zs.take j).contains z || (y == z)) := by
  rw [List.take_add_one, h, Bool.eq_iff_iff, Bool.or_eq_true, List.contains_iff_mem, List.contains_iff_mem, List.mem_append, beq_iff_eq]
  constructor
  · rintro (h | h)
    · exact .inl h
    · simp at h; exact .inr h.symm
  · rintro (h | h)
    · exact .inl h
    · exact .inr (by simp [h])

theorem refMaj_any (n : Int) (A : Option Addr) (m cap B : Nat) (zs : List Int) (w : World) (hr : SlR w B 1 A m (intVs zs)) (hm : m ≤ 1000000) (hn : -9223372036854775808 ≤ n ∧ n ≤ 9223372036854775807) :
    Calls Try.prog 24 #[.int .i64 n, .slice A m cap] w fun e w' => e = .returned (.bool (majB n zs)) ∧ ∃ k, w' = w.drewN k := by
  have hl : zs.length = m := by have := hr.len; simpa [intVs] using this
  have Hl := Lib.hid hl; have Hr := Lib.hid hr
  have hnd : (diffs (inR n zs)).length ≤ m := by
    have h1 : ∀ k, k ≤ m → (diffs (inR n (zs.take k))).length ≤ k := by
      intro k
      induction k with
      | zero => intro _; simp [diffs, inR]
      | succ k ih =>
        intro hk
        have h2 := diffs_step n zs k _ (List.getElem?_eq_getElem (show k < zs.length by omega))
        have := ih (by omega)
        split at h2 <;> omega
    have := h1 m (Nat.le_refl _)
    rwa [List.take_of_length_le (by omega)] at this
  clear hl hr
  go_enter Try.func24, Try.ntmps24
  go_wp2_with fail
  go_loopw [5, 6] (fun c i wr => ∃ k q : Nat, k ≤ m ∧ i = .int .i64 k ∧ c = .int .i64 ((diffs (inR n (zs.take k))).length : Nat) ∧ (diffs (inR n (zs.take k))).length ≤ k ∧ wr = w.drewN q) (fun _ i _ => m - (intOf i).toNat)
  case atStart => exact ⟨0, 0, Nat.zero_le _, rfl, rfl, Nat.le_refl _, rfl⟩
  case round =>
    obtain ⟨k, q, hk, rfl, rfl, hdk, rfl⟩ := hrel
    obtain ⟨D, hD⟩ : ∃ D, (diffs (inR n (zs.take k))).length = D := ⟨_, rfl⟩
    rw [hD] at hdk ⊢
    by_cases hlt : k < m
    · obtain ⟨ad, u, hA, had, hu, hcell⟩ := Hr.out.get hlt
      subst hA
      obtain ⟨z, hz, rfl⟩ := intVs_get hu
      have hstep := diffs_step n zs k z hz
      rw [hD] at hstep
      obtain ⟨I, hI⟩ : ∃ I, (decide (0 ≤ z) && decide (z < n)) = I := ⟨_, rfl⟩
      rw [hI] at hstep
      have i1 : (k : Int) < (m : Int) := by omega
      have i0 : 0 ≤ (k : Int) := by omega
      have Hstep := Lib.hid hstep; have Hz := Lib.hid hz; have HI := Lib.hid hI
      clear hstep hz hu hD had hI
      by_cases a1 : 0 ≤ z
      · have d1 : decide (0 ≤ z) = true := by simpa using a1
        by_cases a2 : z < n
        · have d2 : decide (z < n) = true := by simpa using a2
          have hI : I = true := by rw [← HI.out, d1, d2]; rfl
          subst hI
          clear a1 a2
          clear HI
          go_wp2_with fail
          go_loopw [7, 8] (fun f j wr => ∃ jj q : Nat, jj ≤ k ∧ j = .int .i64 jj ∧ f = .bool (true && !(zs.take jj).contains z) ∧ wr = w.drewN q) (fun _ j _ => k - (intOf j).toNat)
          case atStart => exact ⟨0, q, Nat.zero_le _, rfl, rfl, rfl⟩
          case round =>
            obtain ⟨jj, q2, hjj, rfl, rfl, rfl⟩ := hrel
            obtain ⟨bb, hbb⟩ : ∃ bb, (true && !(zs.take jj).contains z) = bb := ⟨_, rfl⟩
            rw [hbb]
            by_cases hj : jj < k
            · obtain ⟨ad2, u2, hA2, _, hu2, hcell2⟩ := Hr.out.get (show jj < m by omega)
              cases hA2
              obtain ⟨y, hy, rfl⟩ := intVs_get hu2
              have htc := take_contains zs jj y z hy
              have Htc := Lib.hid htc; have Hbb := Lib.hid hbb
              have j1 : (jj : Int) < (k : Int) := by omega
              have j2 : (jj : Int) < (m : Int) := by omega
              have j0 : 0 ≤ (jj : Int) := by omega
              clear htc hbb hy hu2
              cases bb with
              | false =>
                have hn2 : (true && !(zs.take (jj + 1)).contains z) = false := by
                  rw [Htc.out]
                  have := Hbb.out
                  revert this
                  cases (zs.take jj).contains z <;> simp
                have Hn2 := Lib.hid hn2; clear hn2
                go_wp2_with fail
                go_quiet (fail)
                go_wp2_with fail
                go_roundw
                case rel => exact ⟨jj + 1, _, by omega, by go_num, by rw [Hn2.out], rfl⟩
                case measure => simp [intOf]; omega
              | true =>
                by_cases e : y = z
                · have e1 : (y != z) = false := by simpa using e
                  have hn2 : (true && !(zs.take (jj + 1)).contains z) = false := by
                    rw [Htc.out, show (y == z) = true from by simpa using e]
                    simp
                  have Hn2 := Lib.hid hn2
                  clear hn2 e
                  go_wp2_with fail
                  go_quiet (fail)
                  go_wp2_with fail
                  go_roundw
                  case rel => exact ⟨jj + 1, _, by omega, by go_num, by rw [Hn2.out], rfl⟩
                  case measure => simp [intOf]; omega
                · have e1 : (y != z) = true := by rw [bne_iff_ne]; exact e
                  have hn2 : (true && !(zs.take (jj + 1)).contains z) = true := by
                    rw [Htc.out, show (y == z) = false from by simpa using e]
                    have := Hbb.out
                    revert this
                    cases (zs.take jj).contains z <;> simp
                  have Hn2 := Lib.hid hn2
                  clear hn2 e
                  go_wp2_with fail
                  go_quiet (fail)
                  go_wp2_with fail
                  go_roundw
                  case rel => exact ⟨jj + 1, _, by omega, by go_num, by rw [Hn2.out], rfl⟩
                  case measure => simp [intOf]; omega
            · obtain rfl : jj = k := by omega
              have hdk2 : decide (jj < jj) = false := by simp
              have hs2 := Hstep.out
              rw [hbb] at hs2
              cases bb with
              | false =>
                rw [if_neg (by decide)] at hs2
                have Hs2 := Lib.hid hs2
                clear hs2 hbb
                go_wp2_with fail
                go_roundw
                case rel => exact ⟨jj + 1, _, by omega, by go_num, by rw [Hs2.out, Nat.add_zero], by rw [Hs2.out]; omega, rfl⟩
                case measure => simp [intOf]; omega
              | true =>
                rw [if_pos rfl] at hs2
                have Hs2 := Lib.hid hs2
                clear hs2 hbb
                go_wp2_with fail
                go_roundw
                case rel => exact ⟨jj + 1, _, by omega, by go_num, by rw [Hs2.out]; go_num, by rw [Hs2.out]; omega, rfl⟩
                case measure => simp [intOf]; omega
        · have d2 : decide (z < n) = false := by simpa using a2
          have hI : I = false := by rw [← HI.out, d1, d2]; rfl
          subst hI
          clear a1 a2
          clear HI
          go_wp2_with fail
          go_loopw [7, 8] (fun f j wr => ∃ jj q : Nat, jj ≤ k ∧ j = .int .i64 jj ∧ f = .bool (false && !(zs.take jj).contains z) ∧ wr = w.drewN q) (fun _ j _ => k - (intOf j).toNat)
          case atStart => exact ⟨0, q, Nat.zero_le _, rfl, rfl, rfl⟩
          case round =>
            obtain ⟨jj, q2, hjj, rfl, rfl, rfl⟩ := hrel
            obtain ⟨bb, hbb⟩ : ∃ bb, (false && !(zs.take jj).contains z) = bb := ⟨_, rfl⟩
            rw [hbb]
            by_cases hj : jj < k
            · obtain ⟨ad2, u2, hA2, _, hu2, hcell2⟩ := Hr.out.get (show jj < m by omega)
              cases hA2
              obtain ⟨y, hy, rfl⟩ := intVs_get hu2
              have htc := take_contains zs jj y z hy
              have Htc := Lib.hid htc; have Hbb := Lib.hid hbb
              have j1 : (jj : Int) < (k : Int) := by omega
              have j2 : (jj : Int) < (m : Int) := by omega
              have j0 : 0 ≤ (jj : Int) := by omega
              clear htc hbb hy hu2
              cases bb with
              | false =>
                have hn2 : (false && !(zs.take (jj + 1)).contains z) = false := by
                  rw [Htc.out]
                  have := Hbb.out
                  revert this
                  cases (zs.take jj).contains z <;> simp
                have Hn2 := Lib.hid hn2; clear hn2
                go_wp2_with fail
                go_quiet (fail)
                go_wp2_with fail
                go_roundw
                case rel => exact ⟨jj + 1, _, by omega, by go_num, by rw [Hn2.out], rfl⟩
                case measure => simp [intOf]; omega
              | true =>
                by_cases e : y = z
                · have e1 : (y != z) = false := by simpa using e
                  have hn2 : (false && !(zs.take (jj + 1)).contains z) = false := by
                    rw [Htc.out, show (y == z) = true from by simpa using e]
                    simp
                  have Hn2 := Lib.hid hn2
                  clear hn2 e
                  go_wp2_with fail
                  go_quiet (fail)
                  go_wp2_with fail
                  go_roundw
                  case rel => exact ⟨jj + 1, _, by omega, by go_num, by rw [Hn2.out], rfl⟩
                  case measure => simp [intOf]; omega
                · have e1 : (y != z) = true := by rw [bne_iff_ne]; exact e
                  have hn2 : (false && !(zs.take (jj + 1)).contains z) = true := by
                    rw [Htc.out, show (y == z) = false from by simpa using e]
                    have := Hbb.out
                    revert this
                    cases (zs.take jj).contains z <;> simp
                  have Hn2 := Lib.hid hn2
                  clear hn2 e
                  go_wp2_with fail
                  go_quiet (fail)
                  go_wp2_with fail
                  go_roundw
                  case rel => exact ⟨jj + 1, _, by omega, by go_num, by rw [Hn2.out], rfl⟩
                  case measure => simp [intOf]; omega
            · obtain rfl : jj = k := by omega
              have hdk2 : decide (jj < jj) = false := by simp
              have hs2 := Hstep.out
              rw [hbb] at hs2
              cases bb with
              | false =>
                rw [if_neg (by decide)] at hs2
                have Hs2 := Lib.hid hs2
                clear hs2 hbb
                go_wp2_with fail
                go_roundw
                case rel => exact ⟨jj + 1, _, by omega, by go_num, by rw [Hs2.out, Nat.add_zero], by rw [Hs2.out]; omega, rfl⟩
                case measure => simp [intOf]; omega
              | true =>
                rw [if_pos rfl] at hs2
                have Hs2 := Lib.hid hs2
                clear hs2 hbb
                go_wp2_with fail
                go_roundw
                case rel => exact ⟨jj + 1, _, by omega, by go_num, by rw [Hs2.out]; go_num, by rw [Hs2.out]; omega, rfl⟩
                case measure => simp [intOf]; omega
      · have d1 : decide (0 ≤ z) = false := by simpa using a1
        have hI : I = false := by rw [← HI.out, d1]; rfl
        subst hI
        clear a1
        clear HI
        go_wp2_with fail
        go_loopw [7, 8] (fun f j wr => ∃ jj q : Nat, jj ≤ k ∧ j = .int .i64 jj ∧ f = .bool (false && !(zs.take jj).contains z) ∧ wr = w.drewN q) (fun _ j _ => k - (intOf j).toNat)
        case atStart => exact ⟨0, q, Nat.zero_le _, rfl, rfl, rfl⟩
        case round =>
          obtain ⟨jj, q2, hjj, rfl, rfl, rfl⟩ := hrel
          obtain ⟨bb, hbb⟩ : ∃ bb, (false && !(zs.take jj).contains z) = bb := ⟨_, rfl⟩
          rw [hbb]
          by_cases hj : jj < k
          · obtain ⟨ad2, u2, hA2, _, hu2, hcell2⟩ := Hr.out.get (show jj < m by omega)
            cases hA2
            obtain ⟨y, hy, rfl⟩ := intVs_get hu2
            have htc := take_contains zs jj y z hy
            have Htc := Lib.hid htc; have Hbb := Lib.hid hbb
            have j1 : (jj : Int) < (k : Int) := by omega
            have j2 : (jj : Int) < (m : Int) := by omega
            have j0 : 0 ≤ (jj : Int) := by omega
            clear htc hbb hy hu2
            cases bb with
            | false =>
              have hn2 : (false && !(zs.take (jj + 1)).contains z) = false := by
                rw [Htc.out]
                have := Hbb.out
                revert this
                cases (zs.take jj).contains z <;> simp
              have Hn2 := Lib.hid hn2; clear hn2
              go_wp2_with fail
              go_quiet (fail)
              go_wp2_with fail
              go_roundw
              case rel => exact ⟨jj + 1, _, by omega, by go_num, by rw [Hn2.out], rfl⟩
              case measure => simp [intOf]; omega
            | true =>
              by_cases e : y = z
              · have e1 : (y != z) = false := by simpa using e
                have hn2 : (false && !(zs.take (jj + 1)).contains z) = false := by
                  rw [Htc.out, show (y == z) = true from by simpa using e]
                  simp
                have Hn2 := Lib.hid hn2
                clear hn2 e
                go_wp2_with fail
                go_quiet (fail)
                go_wp2_with fail
                go_roundw
                case rel => exact ⟨jj + 1, _, by omega, by go_num, by rw [Hn2.out], rfl⟩
                case measure => simp [intOf]; omega
              · have e1 : (y != z) = true := by rw [bne_iff_ne]; exact e
                have hn2 : (false && !(zs.take (jj + 1)).contains z) = true := by
                  rw [Htc.out, show (y == z) = false from by simpa using e]
                  have := Hbb.out
                  revert this
                  cases (zs.take jj).contains z <;> simp
                have Hn2 := Lib.hid hn2
                clear hn2 e
                go_wp2_with fail
                go_quiet (fail)
                go_wp2_with fail
                go_roundw
                case rel => exact ⟨jj + 1, _, by omega, by go_num, by rw [Hn2.out], rfl⟩
                case measure => simp [intOf]; omega
          · obtain rfl : jj = k := by omega
            have hdk2 : decide (jj < jj) = false := by simp
            have hs2 := Hstep.out
            rw [hbb] at hs2
            cases bb with
            | false =>
              rw [if_neg (by decide)] at hs2
              have Hs2 := Lib.hid hs2
              clear hs2 hbb
              go_wp2_with fail
              go_roundw
              case rel => exact ⟨jj + 1, _, by omega, by go_num, by rw [Hs2.out, Nat.add_zero], by rw [Hs2.out]; omega, rfl⟩
              case measure => simp [intOf]; omega
            | true =>
              rw [if_pos rfl] at hs2
              have Hs2 := Lib.hid hs2
              clear hs2 hbb
              go_wp2_with fail
              go_roundw
              case rel => exact ⟨jj + 1, _, by omega, by go_num, by rw [Hs2.out]; go_num, by rw [Hs2.out]; omega, rfl⟩
              case measure => simp [intOf]; omega
    · obtain rfl : k = m := by omega
      have hd : decide (k < k) = false := by simp
      rw [List.take_of_length_le (by rw [Hl.out]; exact Nat.le_refl _)] at hD
      have hv : majB n zs = decide (1 ≤ n ∧ n / 2 < (D : Int)) := by unfold majB; rw [hD]
      have Hv := Lib.hid hv
      clear hv hD
      by_cases b1 : 1 ≤ n
      · by_cases b2 : n / 2 < (D : Int)
        · have hv2 : majB n zs = true := by rw [Hv.out]; exact decide_eq_true ⟨b1, b2⟩
          have Hv2 := Lib.hid hv2; clear hv2
          go_wp2_with fail
          go_ret
          rw [Hv2.out]
          exact ⟨rfl, q, rfl⟩
        · have hv2 : majB n zs = false := by rw [Hv.out]; exact decide_eq_false (fun h => b2 h.2)
          have Hv2 := Lib.hid hv2; clear hv2
          have b2' : (D : Int) ≤ n / 2 := by omega
          have b3 : decide (n / 2 < (D : Int)) = false := by simpa using b2'
          clear b2
          go_wp2_with fail
          go_ret
          rw [Hv2.out]
          exact ⟨rfl, q, rfl⟩
      · have hv2 : majB n zs = false := by rw [Hv.out]; exact decide_eq_false (fun h => b1 h.1)
        have Hv2 := Lib.hid hv2; clear hv2
        have b1' : decide (1 ≤ n) = false := by simpa using b1
        clear b1
        go_wp2_with fail
        go_ret
        rw [Hv2.out]
        exact ⟨rfl, q, rfl⟩

theorem same_eq (t f : Int) (w : World) :
    Calls Try.prog 18 #[.agg #[.int .i64 t, .int .i64 f], .agg #[.int .i64 t, .int .i64 f]] w fun e w' => e = .returned (.bool true) ∧ Below w.heap.size w w' := by
  go_enter Try.func18, Try.ntmps18
  go_wp2_with fail
  go_ret
  exact ⟨rfl, ((Below.refl _ _).alloc (Nat.le_refl _) _).alloc (by simp) _⟩
end Go.Proofs.Ytbcbjibbeieaiaa
