/- The document's own net: Double, Swap. -/
import Derived.Test.YtadhboioaacaeaaRefTake
import Derived.BigRegion
namespace Go.Proofs.Ytadhboioaacaeaa
open Go.RowKit
set_option maxHeartbeats 4000000
set_option maxRecDepth 100000
set_option linter.unusedVariables false

theorem refDouble_any (S : Nat → Prop) (g : Nat) (ps : List Pk) (cs : List (Int × Int)) (j : Int) (w : World) (h : RefIs w S g ps cs) :
    Calls Try.prog 21 #[.pointer (some ⟨g, 0, none⟩), .int .i64 j] w fun e w' => e = .returned (.bool (dblB ps j)) ∧ RefStep S g w w' (dblP ps j) cs := by
  have hi := refHas_any S g ps cs j w h
  cases hb : hasB ps j with
  | false =>
    have hv : dblB ps j = false := by unfold dblB; rw [hb]; rfl
    have hp : dblP ps j = ps := by unfold dblP; rw [hv]; rfl
    rw [hv, hp]
    rw [hb] at hi
    have Hi := Lib.hid hi; have Hh := Lib.hid h
    clear h hi hb hv hp
    go_enter Try.func21, Try.ntmps21
    go_wp2_with fail
    refine Hi.out.mono ?_
    rintro e w1 ⟨rfl, rfl⟩
    go_wp2_with fail
    go_ret
    exact ⟨rfl, RefIs.same Hh.out (Below.refl _ _)⟩
  | true =>
    obtain ⟨n, rfl, hn⟩ := hasB_nat hb
    obtain ⟨p, hpn⟩ : ∃ p, ps[n]? = some p := ⟨_, List.getElem?_eq_getElem hn⟩
    have hgp := getP_yes hpn
    obtain ⟨x, y, s⟩ := p
    rw [hb] at hi
    obtain ⟨v1, v2, hB, hr, h2, s1, s2, s3⟩ := id h
    obtain ⟨q, c, rfl, _, hq⟩ := hr.form (by omega)
    have hnc := own_cap hr (by omega)
    have hc0 := hB.cell 0
    simp at hc0
    by_cases hful : 2000 ≤ ps.length
    · have hv : dblB ps (n : Int) = false := by unfold dblB; simp; omega
      have hp : dblP ps (n : Int) = ps := by unfold dblP; rw [hv]; rfl
      rw [hv, hp]
      have d1 : decide (2000 ≤ ps.length) = true := by simpa using hful
      have d2 : (2000 : Int) ≤ (ps.length : Int) := by omega
      have Hi := Lib.hid hi; have Hh := Lib.hid h
      clear h hi hb hv hp hB hr h2 s2 s3 hpn hgp
      go_enter Try.func21, Try.ntmps21
      go_wp2_with fail
      refine Hi.out.mono ?_
      rintro e w1 ⟨rfl, rfl⟩
      go_wp2_with fail
      go_ret
      exact ⟨rfl, RefIs.same Hh.out (Below.refl _ _)⟩
    · have hv : dblB ps (n : Int) = true := by unfold dblB; rw [hb]; simp; omega
      have hp : dblP ps (n : Int) = ps ++ [(x, y, s)] := by unfold dblP; rw [hv, hgp]; rfl
      rw [hv, hp]
      have d1 : decide (2000 ≤ ps.length) = false := by simpa using hful
      have d2 : (ps.length : Int) < 2000 := by omega
      have hlen : ps.length < 2000 := by omega
      have n0 : (0 : Int) ≤ (n : Int) := by omega
      have n1 : (n : Int) < (ps.length : Int) := by omega
      have hg := hB.lt
      obtain ⟨i0, hi0, hz0, hz1, hz2⟩ := info_parts info_pk
      have KL : ∀ wx, Below w.heap.size w wx → SlR wx w.heap.size 3 (some ⟨q, 0, none⟩) ps.length (pkVs ps) := fun wx hb => (SlR.own hr).below hb
      have KB : ∀ wx, Below w.heap.size w wx → BlkIs wx g 42 #[.slice (some ⟨q, 0, none⟩) ps.length c, v2] := fun wx hb => hB.below hb hg
      have KR : ∀ wx, Below w.heap.size w wx → wx.cell? ⟨q, n * 3, none⟩ = some (.int .i64 x) ∧ wx.cell? ⟨q, n * 3 + 1, none⟩ = some (.int .i64 y) ∧ wx.cell? ⟨q, n * 3 + 2, none⟩ = some (.string s) := fun wx hb => by
        have hr' := own_below hr hb (fun b hb => (hr.lt b hb).2)
        have k0 := (hr'.cellAt (n * 3) (by omega)).trans (pkVs_get ps n 0 _ hpn (by omega))
        have k1 := (hr'.cellAt (n * 3 + 1) (by omega)).trans (pkVs_get ps n 1 _ hpn (by omega))
        have k2 := (hr'.cellAt (n * 3 + 2) (by omega)).trans (pkVs_get ps n 2 _ hpn (by omega))
        simp [pkC] at k0 k1 k2
        exact ⟨k0, k1, k2⟩
      have KE : ∀ wx v', Below w.heap.size w wx → wx.ownsRow w.heap.size 28 3 v' (ps.length + 1) (pkVs ps ++ [.int .i64 x, .int .i64 y, .string s]) → RefStep S g w (wx.setCell ⟨g, 0, none⟩ v') (ps ++ [(x, y, s)]) cs := fun wx v' hb hown =>
        refStep_row hB h2 s1 s3 (Chg.refl _ _) hb (by rw [List.length_append, pkVs_append]; exact own_base hown (Nat.zero_le _)) (fun b hb => (hown.lt b hb).1)
      have KL1 := Lib.hid KL; have KB1 := Lib.hid KB; have KR1 := Lib.hid KR; have KE1 := Lib.hid KE
      obtain ⟨k0, k1, k2⟩ := KR w (Below.refl _ _)
      have Hi := Lib.hid hi
      clear h hi hb hv hp hB hr h2 s2 s3 hpn hgp hful KL KB KR KE
      go_enter Try.func21, Try.ntmps21
      go_wp2_with fail
      refine Hi.out.mono ?_
      rintro e w1 ⟨rfl, rfl⟩
      go_wp2_with fail
      have tok1 : True := trivial
      go_region_law (first
        | (have _t := tok1; clear tok1 _t; refine step_append_sl (by rfl) (.const (.slice none 0 0)) (.tmp 21) _ (by rfl) w.heap.size 28 i0 _ 3 32 Try.underlying39 hi0 hz0 hz1 hz2 rfl (by omega) (.slice none 0 0) 0 [] (by simp [Act.eval]) (World.ownsRow_nil _ _ _ _) w.heap.size (some ⟨q, 0, none⟩) ps.length c (pkVs ps) (by simp [Act.eval, Act.put]) (KL1.out _ (by repeat (first | exact Below.refl _ _ | refine Below.drew ?_ | refine below_new ?_ (Nat.le_refl _) _))) (pkVs_one ps) (by simp only [maxLen]; omega) (by omega) (by simp <;> omega) ?_; intro va wa hown1 hg1 hat1; have HA : Hid (Below w.heap.size w wa) := Lib.hid ((show Below w.heap.size w _ from (by repeat (first | exact Below.refl _ _ | refine Below.drew ?_ | refine below_new ?_ (Nat.le_refl _) _))).grown hg1 (by simp <;> omega) (by simp [Value.ownBlock])); (try have HQ : Hid (BlkIs wa w.heap.size 28 #[.int .i64 x, .int .i64 y, .string s]) := Lib.hid (((BlkIs.new w 28 #[.int .i64 x, .int .i64 y, .string s]).drew).grown hg1 (by simp [Value.ownBlock]))); simp only [Nat.zero_add, List.nil_append] at hown1; have HO := Lib.hid hown1; have hb0 := (KB1.out wa HA.out).cell 0; simp at hb0; obtain ⟨l0, l1, l2⟩ := KR1.out wa HA.out; have hwg : g < wa.heap.size := Nat.lt_of_lt_of_le hg HA.out.size; have hwq : q < wa.heap.size := Nat.lt_of_lt_of_le hq HA.out.size; clear hown1 hg1 hat1)
        | (refine step_append_lies _ (by rfl) (.tmp 22) (.tmp 30) _ (by rfl) w.heap.size 28 i0 _ 3 32 Try.underlying39 hi0 hz0 hz1 hz2 rfl (by omega) va _ _ (by simp [Act.eval, Act.put]) (by first | exact HO.out | exact HO.out.alloc _ | exact (HO.out.alloc _).drew) ⟨wa.heap.size, 0, none⟩ 1 1 [.int .i64 x, .int .i64 y, .string s] (by simp [Act.eval, Act.put]) (by rfl) (World.news_of_block (cs := #[.int .i64 x, .int .i64 y, .string s]) (t := 28) (fr := (0, 0)) (heap_alloc_new wa _)) (by simp [Value.oneCell']) (by omega) (by simp only [maxLen]; omega) (by omega) (by have := HA.out.size; simp <;> omega) _ rfl ?_; intro g2 c2 wb hown2 hg2 hat2 hlt2; have HBb : Hid (Below w.heap.size w wb) := Lib.hid ((below_new HA.out (Nat.le_refl _) (.cells #[.int .i64 x, .int .i64 y, .string s] 28)).grown hg2 (by have := HA.out.size; simp <;> omega) (fun q hq => (HO.out.lt q hq).1)); have HF := Lib.hid (KE1.out wb _ HBb.out hown2); have hb1 := (KB1.out wb HBb.out).cell 0; have hf1 := (KB1.out wb HBb.out).free 0; simp at hb1; clear hown2 hg2 hat2)
        | (refine step_append_lies _ (by rfl) (.tmp 22) (.tmp 30) _ (by rfl) w.heap.size 28 i0 _ 3 32 Try.underlying39 hi0 hz0 hz1 hz2 rfl (by omega) va _ _ (by simp [Act.eval, Act.put]) (by first | exact HO.out | exact HO.out.drew) ⟨w.heap.size, 0, none⟩ 1 1 [.int .i64 x, .int .i64 y, .string s] (by simp [Act.eval, Act.put]) (by rfl) (World.news_of_block (cs := #[.int .i64 x, .int .i64 y, .string s]) (t := 28) (fr := (0, 0)) HQ.out) (by simp [Value.oneCell']) (by omega) (by simp only [maxLen]; omega) (by omega) (by have := HA.out.size; simp <;> omega) _ rfl ?_; intro g2 c2 wb hown2 hg2 hat2 hlt2; have HBb : Hid (Below w.heap.size w wb) := Lib.hid (HA.out.grown hg2 (by have := HA.out.size; simp <;> omega) (fun q hq => (HO.out.lt q hq).1)); have HF := Lib.hid (KE1.out wb _ HBb.out hown2); have hb1 := (KB1.out wb HBb.out).cell 0; have hf1 := (KB1.out wb HBb.out).free 0; simp at hb1; clear hown2 hg2 hat2))
      all_goals
        go_wp2_with fail
        go_ret
        exact ⟨rfl, HF.out⟩

theorem refSwap_any (S : Nat → Prop) (g : Nat) (ps : List Pk) (cs : List (Int × Int)) (j i : Int) (w : World) (h : RefIs w S g ps cs) (hps : ps.length ≤ 1000000) :
    Calls Try.prog 23 #[.pointer (some ⟨g, 0, none⟩), .int .i64 j, .int .i64 i] w fun e w' => e = .returned (.bool (swpB ps j i)) ∧ RefStep S g w w' (swpP ps j i) cs := by
  have hi := refHas_any S g ps cs j w h
  have hi2 := refHas_any S g ps cs i w h
  cases hb : hasB ps j with
  | false =>
    have hv : swpB ps j i = false := by unfold swpB; rw [hb]; rfl
    have hp : swpP ps j i = ps := by unfold swpP; rw [hv]; rfl
    rw [hv, hp]
    rw [hb] at hi
    have Hi := Lib.hid hi; have Hh := Lib.hid h
    clear h hi hi2 hb hv hp
    go_enter Try.func23, Try.ntmps23
    go_wp2_with fail
    refine Hi.out.mono ?_
    rintro e w1 ⟨rfl, rfl⟩
    go_wp2_with fail
    go_ret
    exact ⟨rfl, RefIs.same Hh.out (Below.refl _ _)⟩
  | true =>
    cases hb2 : hasB ps i with
    | false =>
      have hv : swpB ps j i = false := by unfold swpB; rw [hb, hb2]; rfl
      have hp : swpP ps j i = ps := by unfold swpP; rw [hv]; rfl
      rw [hv, hp]
      rw [hb] at hi
      rw [hb2] at hi2
      have Hi := Lib.hid hi; have Hi2 := Lib.hid hi2; have Hh := Lib.hid h
      clear h hi hi2 hb hb2 hv hp
      go_enter Try.func23, Try.ntmps23
      go_wp2_with fail
      refine Hi.out.mono ?_
      rintro e w1 ⟨rfl, rfl⟩
      go_wp2_with fail
      refine Hi2.out.mono ?_
      rintro e w1 ⟨rfl, rfl⟩
      go_wp2_with fail
      go_ret
      exact ⟨rfl, RefIs.same Hh.out (Below.refl _ _)⟩
    | true =>
      obtain ⟨n, rfl, hn⟩ := hasB_nat hb
      obtain ⟨m, rfl, hm0⟩ := hasB_nat hb2
      obtain ⟨p, hpn⟩ : ∃ p, ps[n]? = some p := ⟨_, List.getElem?_eq_getElem hn⟩
      obtain ⟨p', hpm⟩ : ∃ p, ps[m]? = some p := ⟨_, List.getElem?_eq_getElem hm0⟩
      have HPP := Lib.hid (show n = m → p = p' from fun e => by subst e; rw [hpn] at hpm; injection hpm)
      have hgp := getP_yes hpn
      have hgm := getP_yes hpm
      have hv : swpB ps (n : Int) (m : Int) = true := by unfold swpB; rw [hb, hb2]; rfl
      have hp : swpP ps (n : Int) (m : Int) = (ps.set n p').set m p := by unfold swpP; rw [hv, hgp, hgm]; rfl
      rw [hv, hp]
      rw [hb] at hi
      rw [hb2] at hi2
      obtain ⟨i0, hi0, hz0, hz1, hz2⟩ := info_parts info_pk
      obtain ⟨v1, v2, hB, hr, h2, s1, s2, s3⟩ := id h
      have hg := hB.lt
      obtain ⟨A1, k1, rfl, hk1⟩ := own_slice hr
      have hc0 := hB.cell 0
      simp at hc0
      have HL := Lib.hid (SlR.own hr)
      have KE : ∀ wa r cc, Below w.heap.size w wa → wa.ownsRow w.heap.size 28 3 (.slice (some ⟨r, 0, none⟩) ps.length cc) ps.length (pkVs ps) →
          RefStep S g w (((wa.setCells r (n * 3) (pkC p')).setCells r (m * 3) (pkC p)).setCell ⟨g, 0, none⟩ (.slice (some ⟨r, 0, none⟩) ps.length cc)) ((ps.set n p').set m p) cs ∧
          (n ≠ m → RefStep S g w (((wa.setCells r (m * 3) (pkC p)).setCells r (n * 3) (pkC p')).setCell ⟨g, 0, none⟩ (.slice (some ⟨r, 0, none⟩) ps.length cc)) ((ps.set n p').set m p) cs) := fun wa r cc hb hown => by
        have hrl : w.heap.size ≤ r := (hown.lt r rfl).1
        refine ⟨?_, fun hne => ?_⟩
        · obtain ⟨o1, g1⟩ := own_cells (w := w) (pkC p') (pkVs ps) (n * 3) wa hown
          rw [pkVs_set ps n p' hn] at o1
          obtain ⟨o2, g2⟩ := own_cells (w := w) (pkC p) _ (m * 3) _ o1
          rw [pkVs_set (ps.set n p') m p (by simpa using hm0)] at o2
          exact refStep_row hB h2 s1 s3 (Chg.refl _ _) ((hb.grown g1 hb.size (fun k hk => by injection hk with hk; omega)).grown g2 (Nat.le_trans hb.size g1.size) (fun k hk => by injection hk with hk; omega))
            (by simpa using own_base o2 (Nat.zero_le _)) (fun b hb => by obtain rfl : r = b := by simpa [Value.ownBlock] using hb
                                                                         exact hrl)
        · obtain ⟨o1, g1⟩ := own_cells (w := w) (pkC p) (pkVs ps) (m * 3) wa hown
          rw [pkVs_set ps m p hm0] at o1
          obtain ⟨o2, g2⟩ := own_cells (w := w) (pkC p') _ (n * 3) _ o1
          rw [pkVs_set (ps.set m p) n p' (by simpa using hn), List.set_comm _ _ (Ne.symm hne)] at o2
          exact refStep_row hB h2 s1 s3 (Chg.refl _ _) ((hb.grown g1 hb.size (fun k hk => by injection hk with hk; omega)).grown g2 (Nat.le_trans hb.size g1.size) (fun k hk => by injection hk with hk; omega))
            (by simpa using own_base o2 (Nat.zero_le _)) (fun b hb => by obtain rfl : r = b := by simpa [Value.ownBlock] using hb
                                                                         exact hrl)
      have KB : ∀ wx, Below w.heap.size w wx → BlkIs wx g 42 #[.slice A1 ps.length k1, v2] := fun wx hb => hB.below hb hg
      have KC : ∀ (wa : World) (r cc : Nat), wa.ownsRow w.heap.size 28 3 (.slice (some ⟨r, 0, none⟩) ps.length cc) ps.length (pkVs ps) → ∀ i, i < 3 → wa.cell? ⟨r, n * 3 + i, none⟩ = (pkC p)[i]? ∧ wa.cell? ⟨r, m * 3 + i, none⟩ = (pkC p')[i]? := fun wa r cc hown i hi =>
        ⟨(hown.cellAt (n * 3 + i) (by omega)).trans (pkVs_get ps n i _ hpn hi), (hown.cellAt (m * 3 + i) (by omega)).trans (pkVs_get ps m i _ hpm hi)⟩
      have KE1 := Lib.hid KE; have KB1 := Lib.hid KB; have KC1 := Lib.hid KC
      have Hi := Lib.hid hi; have Hi2 := Lib.hid hi2
      have n0 : (0 : Int) ≤ (n : Int) := by omega
      have n1 : (n : Int) < (ps.length : Int) := by omega
      have m0 : (0 : Int) ≤ (m : Int) := by omega
      have m1 : (m : Int) < (ps.length : Int) := by omega
      have hp0 : 0 < ps.length := by omega
      obtain ⟨x, y, s⟩ := p
      obtain ⟨x', y', s'⟩ := p'
      clear h hi hi2 hb hb2 hv hp hB hr h2 s1 s2 s3 hpn hpm hgp hgm KE KB KC
      go_enter Try.func23, Try.ntmps23
      go_wp2_with fail
      refine Hi.out.mono ?_
      rintro e w1 ⟨rfl, rfl⟩
      go_wp2_with fail
      refine Hi2.out.mono ?_
      rintro e w1 ⟨rfl, rfl⟩
      go_wp2_with (at_builtin; refine wpList_append_sl _ rfl (.const (.slice none 0 0)) (.tmp 21) _ rfl w.heap.size 28 i0 _ 3 32 Try.underlying39 hi0 hz0 hz1 hz2 rfl (by omega) (.slice none 0 0) 0 [] rfl (World.ownsRow_nil _ _ _ _) w.heap.size A1 ps.length k1 (pkVs ps) rfl HL.out (pkVs_one ps) (by simp only [maxLen]; omega) (by omega) (Nat.le_refl _) ?_; intro va wa hown1 hg1 hat1; have HA : Hid (Below w.heap.size w wa) := Lib.hid ((Below.refl _ _).grown hg1 (Nat.le_refl _) (by simp [Value.ownBlock])); simp only [Nat.zero_add, List.nil_append] at hown1; obtain ⟨r, cc, rfl, hrb, hrl⟩ := hown1.form hp0; have HO := Lib.hid hown1; have hfz := hown1.frozenAt; have e0 := KC1.out wa r cc hown1 0 (by omega); have e1 := KC1.out wa r cc hown1 1 (by omega); have e2 := KC1.out wa r cc hown1 2 (by omega); have hb0 := (KB1.out wa HA.out).cell 0; have hf0 := (KB1.out wa HA.out).free 0; simp at hb0; have hgr : g ≠ r := (by omega); clear hown1 hg1 hat1)
      simp [pkC] at e0 e1 e2
      obtain ⟨k0, l0⟩ := e0
      obtain ⟨k1', l1⟩ := e1
      obtain ⟨k2, l2⟩ := e2
      have hcc := own_cap HO.out hp0
      clear hc0
      by_cases hnm : n = m
      · have hpp := HPP.out hnm
        subst hnm
        simp only [Prod.mk.injEq] at hpp
        obtain ⟨rfl, rfl, rfl⟩ := hpp
        clear l0 l1 l2 m0 m1
        have hgr' : ∀ i, (⟨g, 0, none⟩ : Addr) ≠ ⟨r, i, none⟩ := fun i e => hgr (by injection e)
        go_region
        all_goals
          go_wp2_with fail
          go_ret
          have h1 := (KE1.out wa r cc HA.out HO.out).1
          rw [List.set_set] at h1
          exact ⟨rfl, h1.drew⟩
      · have e01 : ¬ n * 3 = m * 3 + 1 := by omega
        have e02 : ¬ n * 3 = m * 3 + 2 := by omega
        have e10 : ¬ n * 3 + 1 = m * 3 := by omega
        have e12 : ¬ n * 3 + 1 = m * 3 + 2 := by omega
        have e20 : ¬ n * 3 + 2 = m * 3 := by omega
        have e21 : ¬ n * 3 + 2 = m * 3 + 1 := by omega
        have f01 : ¬ m * 3 = n * 3 + 1 := by omega
        have f02 : ¬ m * 3 = n * 3 + 2 := by omega
        have f10 : ¬ m * 3 + 1 = n * 3 := by omega
        have f12 : ¬ m * 3 + 1 = n * 3 + 2 := by omega
        have f20 : ¬ m * 3 + 2 = n * 3 := by omega
        have f21 : ¬ m * 3 + 2 = n * 3 + 1 := by omega
        have hmn : ¬ m = n := fun e => hnm e.symm
        go_region
        all_goals
          go_wp2_with fail
          go_ret
          have h1 := (KE1.out wa r cc HA.out HO.out).1
          have h2 := (KE1.out wa r cc HA.out HO.out).2 hnm
          exact ⟨rfl, by first | exact h1.drew | exact h2.drew⟩
end Go.Proofs.Ytadhboioaacaeaa
