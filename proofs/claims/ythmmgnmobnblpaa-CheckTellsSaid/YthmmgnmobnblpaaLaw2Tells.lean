/- chapter 2: CheckTells, walked. -/
import Derived.Test.YthmmgnmobnblpaaLaw2
import Derived.Test.YthmmgnmobnblpaaBook
import Derived.Test.YthmmgnmobnblpaaRef2
namespace Go.Proofs.Ythmmgnmobnblpaa
open Go.RowKit
set_option maxHeartbeats 400000
set_option linter.unusedVariables false

/-- texts one behind the other -/
def joinL (ss : List ByteArray) : List UInt8 := (ss.map (·.data.toList)).flatten
theorem joinL_length (ss : List ByteArray) : (joinL ss).length = bytesOf ss := by
  induction ss with
  | nil => rfl
  | cons s ss ih => simp only [joinL, bytesOf, List.map_cons, List.flatten_cons, List.length_append, List.sum_cons] at ih ⊢; rw [ih, ← size_list]
theorem joinL_take (ss : List ByteArray) (k : Nat) (s : ByteArray) (h : ss[k]? = some s) : joinL (ss.take (k + 1)) = joinL (ss.take k) ++ s.data.toList := by
  unfold joinL; rw [List.take_add_one, h, List.map_append, List.flatten_append]; simp

theorem checkTells_any (A : Option Addr) (n cap : Nat) (ss : List ByteArray) (b : ByteArray) (w : World) (hl : ss.length = n) (hr : SlR w w.heap.size 1 A n (strVs ss))
    (hs : ∀ s ∈ ss, s.size ≤ 9223372036854775807) (hnc : n ≤ cap) (hcm : cap ≤ 9223372036854775807) (hb : b.size ≤ 9223372036854775807) :
    Calls Try.prog 3 #[.slice A n cap, .string b] w fun e w' => e = .returned (.bool true) ∧ Below w.heap.size w w' := by
  have hsh := short_any 60 6000 n cap w.heap.size A ss w hr (Nat.le_refl _) (by omega) hs (by omega) (by omega)
  have Hsh := Lib.hid hsh; clear hsh
  cases hc : shortB 60 6000 ss with
  | false =>
    have Hc := Lib.hid hc; clear hc
    clear hr
    go_enter Try.func3, Try.ntmps3
    go_wp2_with fail
    refine Hsh.out.mono ?_
    rintro e w1 ⟨rfl, hb1⟩
    rw [Hc.out]
    go_wp2_with fail
    refine (alive_any _).mono ?_
    rintro e w2 ⟨rfl, hb2⟩
    go_wp2_with fail
    go_ret
    exact ⟨rfl, hb1.trans (hb2.mono hb1.size)⟩
  | true =>
    have hfew : n ≤ 60 ∧ bytesOf ss ≤ 6000 := by unfold shortB at hc; rw [decide_eq_true_iff] at hc; omega
    obtain ⟨hf1, hf2⟩ := hfew
    have Hc := Lib.hid hc; clear hc
    by_cases hbl : b.size ≤ 3000
    · have Hr := Lib.hid hr; clear hr
      have Hl := Lib.hid hl; clear hl
      go_enter Try.func3, Try.ntmps3
      go_wp2_with fail
      refine Hsh.out.mono ?_
      rintro e w1 ⟨rfl, hb1⟩
      rw [Hc.out]
      go_wp2_with fail
      go_loop [5, 6] (fun t i => ∃ k : Nat, k ≤ n ∧ i = .int .i64 k ∧ t = .string ⟨(joinL (ss.take k)).toArray⟩) (fun _ i => n - (intOf i).toNat)
      case atStart => exact ⟨0, Nat.zero_le _, rfl, rfl⟩
      case round =>
        obtain ⟨k, hk, rfl, rfl⟩ := hrel
        by_cases hlt : k < n
        · obtain ⟨ad, u, hA, had, hu, hcell⟩ := (Hr.out.below hb1).get hlt
          subst hA
          obtain ⟨s, hs1, rfl⟩ := strVs_get hu
          have hjl : (joinL (ss.take k)).length ≤ 6000 := by rw [joinL_length]; exact Nat.le_trans (bytesOf_mono ss k) hf2
          have hsz : s.size ≤ 6000 := Nat.le_trans (size_le_bytesOf ss s (List.mem_of_getElem? hs1)) hf2
          have hst := joinL_take ss k s hs1
          have Hst := Lib.hid hst
          clear hs1 hu had hst hs
          go_wp2_with fail
          all_goals first
            | (exfalso; omega)
            | (go_round
               case rel => exact ⟨k + 1, by omega, by go_num, by rw [Hst.out, str_append]⟩
               case measure => simp [intOf]; omega)
        · obtain rfl : k = n := by omega
          have hj : joinL (ss.take k) = joinL ss := by rw [List.take_of_length_le (by rw [Hl.out]; omega)]
          rw [hj]
          clear hj
          go_wp2_with fail
          refine (lentTexts_any w.heap.size k cap A ss _ (Hr.out.below hb1) hb1.size (by omega) hnc).mono ?_
          rintro e w2 ⟨g, c, rfl, hgc, hown, hb2⟩
          go_wp2_with fail
          refine (open_any b _ (by omega)).mono ?_
          rintro e w3 ⟨rfl, hb3⟩
          generalize hop : openL b.data.toList = op
          have Hop := Lib.hid hop; clear hop
          go_wp2_with fail
          refine (refOpen_any b _ (by omega)).mono ?_
          rintro e w4 ⟨rfl, hb4⟩
          rw [Hop.out]
          have hb24 := hb3.trans (hb4.mono hb3.size)
          clear hb3 hb4
          go_wp2_with fail
          refine (alive_any _).mono ?_
          rintro e w5 ⟨rfl, hb5⟩
          have hb25 := hb24.trans (hb5.mono hb24.size)
          have hown5 := own_below hown hb25 (fun q hq => (hown.lt q hq).2)
          clear hb24 hb5
          have hsl := own_first hown5 (show k ≤ k + 1 by omega)
          rw [strVs, List.map_append, List.take_left' (by rw [List.length_map]; exact Hl.out)] at hsl
          have Hown5 := Lib.hid hown5; clear hown5 hown
          have Hsl := Lib.hid hsl; clear hsl
          go_wp2_with fail
          refine (sum_any _ k c _ ss _ Hsl.out (by omega) hs).mono ?_
          rintro e w6 ⟨rfl, rfl⟩
          go_wp2_with fail
          have hjs : (joinL ss).length ≤ 6000 := by rw [joinL_length]; exact hf2
          refine (refSum_any ⟨(joinL ss).toArray⟩ _ (by rw [size_mk]; omega)).mono ?_
          rintro e w6 ⟨rfl, rfl⟩
          rw [show (ByteArray.mk (joinL ss).toArray).data.toList = (ss.map (·.data.toList)).flatten from rfl]
          go_wp2_with fail
          refine (seal_any b _ (by omega)).mono ?_
          rintro e w6 ⟨rfl, hb6⟩
          go_wp2_with fail
          refine (refSeal_any b _ (by omega)).mono ?_
          rintro e w7 ⟨rfl, hb7⟩
          have hb57 := hb6.trans (hb7.mono hb6.size)
          have hown7 := own_below Hown5.out hb57 (fun q hq => (Hown5.out.lt q hq).2)
          have hb17 := hb2.trans ((hb25.trans (hb57.mono hb25.size)).mono hb2.size)
          clear hb6 hb7
          have Hown7 := Lib.hid hown7; clear hown7
          go_wp2_with fail
          refine (staysTexts_any 0 _ k k c cap g A ss ss _ _ Hown7.out ((Hr.out.below hb1).below (hb17.mono hb1.size)) (by omega) (by omega) rfl).mono ?_
          rintro e w8 ⟨rfl, q, rfl⟩
          go_wp2_with fail
          go_ret
          exact ⟨rfl, below_drewN (hb1.trans (hb17.mono hb1.size)) q⟩
    · have hbl' : (3000 : Int) < (b.size : Int) := by omega
      clear hr hl
      go_enter Try.func3, Try.ntmps3
      go_wp2_with fail
      refine Hsh.out.mono ?_
      rintro e w1 ⟨rfl, hb1⟩
      rw [Hc.out]
      go_wp2_with fail
      refine (alive_any _).mono ?_
      rintro e w2 ⟨rfl, hb2⟩
      go_wp2_with fail
      go_ret
      exact ⟨rfl, hb1.trans (hb2.mono hb1.size)⟩
end Go.Proofs.Ythmmgnmobnblpaa
