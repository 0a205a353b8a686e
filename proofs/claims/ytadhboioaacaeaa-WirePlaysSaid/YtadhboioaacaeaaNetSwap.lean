/- The net: Swap. -/
import Derived.Test.YtadhboioaacaeaaNetMore
namespace Go.Proofs.Ytadhboioaacaeaa
open Go.RowKit
set_option maxHeartbeats 4000000
set_option maxRecDepth 100000
set_option linter.unusedVariables false

/-- one packet of the net's row set anew -/
theorem net_set {S : Nat → Prop} {g k r q c : Nat} {ps : List Pk} {w : World} {D : DataW Unit}
    (hB : BlkIs w g 51 #[.slice (some ⟨q, 0, none⟩) ps.length c, .map (some r)]) (hr : w.ownsRow 0 28 3 (.slice (some ⟨q, 0, none⟩) ps.length c) ps.length (pkVs ps))
    (hm : w.ownsMap Try.prog 53 (unitElem (H := Unit)) r k D) (sq : S q) (j : Nat) (hj : j < ps.length) (p : Pk) :
    BlkIs (w.setCells q (j * 3) (pkC p)) g 51 #[.slice (some ⟨q, 0, none⟩) ps.length c, .map (some r)] ∧ (w.setCells q (j * 3) (pkC p)).ownsRow 0 28 3 (.slice (some ⟨q, 0, none⟩) ps.length c) ps.length (pkVs (ps.set j p)) ∧
      (w.setCells q (j * 3) (pkC p)).ownsMap Try.prog 53 (unitElem (H := Unit)) r k D ∧ Chg S w (w.setCells q (j * 3) (pkC p)) := by
  obtain ⟨h1, h2⟩ := own_cells (w := w) (pkC p) (pkVs ps) (j * 3) w hr
  rw [pkVs_set ps j p hj] at h1
  have hne : q ≠ g := by have := own_ne_blk hr hB (by decide); simpa [Value.ownBlock] using this
  have hne2 : r ≠ q := by have := own_ne_map hm hr; intro e; exact this (by simp [Value.ownBlock, e])
  exact ⟨hB.grown h2 (by simpa using Ne.symm hne), h1, hm.kept h2 (by simpa using hne2), (Chg.refl _ _).grown h2 (fun b hb _ => by injection hb with hb; subst hb; exact sq)⟩

theorem NetStep.drew {S : Nat → Prop} {g k : Nat} {ps : List Pk} {C : Int → Int → Bool} {w w' : World} (h : NetStep S g w w' ps k C) : NetStep S g w w'.drew ps k C := by
  obtain ⟨S', h1, h2, h3⟩ := h
  exact ⟨S', h1.drew, h2.drew, h3⟩

theorem swap_any (S : Nat → Prop) (g k : Nat) (ps : List Pk) (C : Int → Int → Bool) (j i : Int) (w : World) (h : NetIs w S g ps k C) (hlen : ps.length ≤ 1000000) :
    Calls Try.prog 22 #[.pointer (some ⟨g, 0, none⟩), .int .i64 j, .int .i64 i] w fun e w' => e = .returned (.bool (swpB ps j i)) ∧ NetStep S g w w' (swpP ps j i) k C := by
  have hi := is_any S g k ps C j w h
  have hi2 := is_any S g k ps C i w h
  cases hb : hasB ps j with
  | false =>
    have hv : swpB ps j i = false := by unfold swpB; rw [hb]; rfl
    have hp : swpP ps j i = ps := by unfold swpP; rw [hv]; rfl
    rw [hv, hp]
    rw [hb] at hi
    have Hi := Lib.hid hi; have Hh := Lib.hid h
    clear h hi hi2 hb hv hp
    go_enter Try.func22, Try.ntmps22
    go_wp2_with fail
    refine Hi.out.mono ?_
    rintro e w1 ⟨rfl, rfl⟩
    go_wp2_with fail
    go_ret
    exact ⟨rfl, NetIs.same Hh.out (Below.refl _ _)⟩
  | true =>
    cases hb2 : hasB ps i with
    | false =>
      have hv : swpB ps j i = false := by unfold swpB; rw [hb, hb2]; rfl
      have hp : swpP ps j i = ps := by unfold swpP; rw [hv]; rfl
      rw [hv, hp]
      rw [hb] at hi
      rw [hb2] at hi2
      have Hi := Lib.hid hi; have Hi2 := Lib.hid hi2; have Hh := Lib.hid h
      clear h hi hi2 hb hb2 hv hp
      go_enter Try.func22, Try.ntmps22
      go_wp2_with fail
      refine Hi.out.mono ?_
      rintro e w1 ⟨rfl, rfl⟩
      go_wp2_with fail
      refine Hi2.out.mono ?_
      rintro e w1 ⟨rfl, rfl⟩
      go_wp2_with fail
      go_ret
      exact ⟨rfl, NetIs.same Hh.out (Below.refl _ _)⟩
    | true =>
      obtain ⟨n, rfl, hn⟩ := hasB_nat hb
      obtain ⟨m, rfl, hm0⟩ := hasB_nat hb2
      obtain ⟨p, hpn⟩ : ∃ p, ps[n]? = some p := ⟨_, List.getElem?_eq_getElem hn⟩
      obtain ⟨p', hpm⟩ : ∃ p, ps[m]? = some p := ⟨_, List.getElem?_eq_getElem hm0⟩
      have HPP := Lib.hid (show n = m → p = p' from fun e => by subst e; rw [hpn] at hpm; injection hpm)
      have hgp := getP_yes hpn
      have hgm := getP_yes hpm
      have hv : swpB ps (n : Int) (m : Int) = true := by unfold swpB; rw [hb, hb2]; rfl
      have hp : swpP ps (n : Int) (m : Int) = (ps.set n p').set m p := by unfold swpP; rw [hv, hgp, hgm]; rfl
      rw [hv, hp]
      rw [hb] at hi
      rw [hb2] at hi2
      obtain ⟨v, r, D, hB, hr, hm, hD, s1, s2, s3⟩ := id h
      obtain ⟨q, c, rfl, _, hq⟩ := hr.form (by omega)
      have hnc := own_cap hr (by omega)
      have hc0 := hB.cell 0
      simp at hc0
      have hfz := hr.frozenAt
      have sq := s3 q rfl
      have hqg : g ≠ q := Ne.symm (by have := own_ne_blk hr hB (by decide); simpa [Value.ownBlock] using this)
      obtain ⟨W1, hW1⟩ : ∃ W, W = (w.setCells q (n * 3) (pkC p')).setCells q (m * 3) (pkC p) := ⟨_, rfl⟩
      obtain ⟨W2, hW2⟩ : ∃ W, W = (w.setCells q (m * 3) (pkC p)).setCells q (n * 3) (pkC p') := ⟨_, rfl⟩
      have hfin1 : NetStep S g w W1 ((ps.set n p').set m p) k C := by
        obtain ⟨b1, r1, m1, c1⟩ := net_set hB hr hm sq n hn p'
        have hl1 : (ps.set n p').length = ps.length := List.length_set
        obtain ⟨b2, r2, m2, c2⟩ := net_set (ps := ps.set n p') (by rw [hl1]; exact b1) (by rw [hl1]; exact r1) m1 sq m (by rw [hl1]; exact hm0) p
        rw [← hW1] at b2 r2 m2 c2
        exact ⟨S, ⟨_, r, D, b2, by have := r2; rw [show ((ps.set n p').set m p).length = (ps.set n p').length from List.length_set]; exact this, m2, hD, s1, s2, fun x hx => (show q = x from by simpa [Value.ownBlock] using hx) ▸ sq⟩, c1.trans c2 (fun _ _ h => h), fun b hb => .inl hb⟩
      have hfin2 : n ≠ m → NetStep S g w W2 ((ps.set n p').set m p) k C := by
        intro hne
        obtain ⟨b1, r1, m1, c1⟩ := net_set hB hr hm sq m hm0 p
        have hl1 : (ps.set m p).length = ps.length := List.length_set
        obtain ⟨b2, r2, m2, c2⟩ := net_set (ps := ps.set m p) (by rw [hl1]; exact b1) (by rw [hl1]; exact r1) m1 sq n (by rw [hl1]; exact hn) p'
        rw [← hW2] at b2 r2 m2 c2
        rw [List.set_comm _ _ hne]
        exact ⟨S, ⟨_, r, D, b2, by have := r2; rw [show ((ps.set m p).set n p').length = (ps.set m p).length from List.length_set]; exact this, m2, hD, s1, s2, fun x hx => (show q = x from by simpa [Value.ownBlock] using hx) ▸ sq⟩, c1.trans c2 (fun _ _ h => h), fun b hb => .inl hb⟩
      have k0 := (hr.cellAt (n * 3) (by omega)).trans (pkVs_get ps n 0 _ hpn (by omega))
      have k1 := (hr.cellAt (n * 3 + 1) (by omega)).trans (pkVs_get ps n 1 _ hpn (by omega))
      have k2 := (hr.cellAt (n * 3 + 2) (by omega)).trans (pkVs_get ps n 2 _ hpn (by omega))
      have l0 := (hr.cellAt (m * 3) (by omega)).trans (pkVs_get ps m 0 _ hpm (by omega))
      have l1 := (hr.cellAt (m * 3 + 1) (by omega)).trans (pkVs_get ps m 1 _ hpm (by omega))
      have l2 := (hr.cellAt (m * 3 + 2) (by omega)).trans (pkVs_get ps m 2 _ hpm (by omega))
      obtain ⟨x, y, s⟩ := p
      obtain ⟨x', y', s'⟩ := p'
      simp [pkC] at k0 k1 k2 l0 l1 l2
      have HW1 := Lib.hid hW1; have HW2 := Lib.hid hW2
      have HF1 := Lib.hid hfin1; have HF2 := Lib.hid hfin2
      have Hi := Lib.hid hi; have Hi2 := Lib.hid hi2
      have n0 : (0 : Int) ≤ (n : Int) := by omega
      have n1 : (n : Int) < (ps.length : Int) := by omega
      have m0 : (0 : Int) ≤ (m : Int) := by omega
      have m1 : (m : Int) < (ps.length : Int) := by omega
      clear h hi hi2 hb hb2 hv hp hB hr hm hD s1 s2 s3 hpn hpm hgp hgm hfin1 hfin2 hW1 hW2
      by_cases hnm : n = m
      · have hpp := HPP.out hnm
        subst hnm
        simp only [Prod.mk.injEq] at hpp
        obtain ⟨rfl, rfl, rfl⟩ := hpp
        clear l0 l1 l2 m0 m1 HF2
        go_enter Try.func22, Try.ntmps22
        go_wp2_with fail
        refine Hi.out.mono ?_
        rintro e w1 ⟨rfl, rfl⟩
        go_wp2_with fail
        refine Hi2.out.mono ?_
        rintro e w1 ⟨rfl, rfl⟩
        go_wp2_with fail
        go_region
        all_goals
          go_wp2_with fail
          go_ret
          have h1 := HF1.out
          rw [HW1.out] at h1
          exact ⟨rfl, by first | exact h1.drew | exact h1⟩
      · have HN := HF2.out hnm
        have e01 : ¬ n * 3 = m * 3 + 1 := by omega
        have e02 : ¬ n * 3 = m * 3 + 2 := by omega
        have e10 : ¬ n * 3 + 1 = m * 3 := by omega
        have e12 : ¬ n * 3 + 1 = m * 3 + 2 := by omega
        have e20 : ¬ n * 3 + 2 = m * 3 := by omega
        have e21 : ¬ n * 3 + 2 = m * 3 + 1 := by omega
        have f01 : ¬ m * 3 = n * 3 + 1 := by omega
        have f02 : ¬ m * 3 = n * 3 + 2 := by omega
        have f10 : ¬ m * 3 + 1 = n * 3 := by omega
        have f12 : ¬ m * 3 + 1 = n * 3 + 2 := by omega
        have f20 : ¬ m * 3 + 2 = n * 3 := by omega
        have f21 : ¬ m * 3 + 2 = n * 3 + 1 := by omega
        have hmn : ¬ m = n := fun e => hnm e.symm
        have HN := Lib.hid HN
        clear HF2
        go_enter Try.func22, Try.ntmps22
        go_wp2_with fail
        refine Hi.out.mono ?_
        rintro e w1 ⟨rfl, rfl⟩
        go_wp2_with fail
        refine Hi2.out.mono ?_
        rintro e w1 ⟨rfl, rfl⟩
        go_wp2_with fail
        go_region
        all_goals
          go_wp2_with fail
          go_ret
          have h1 := HF1.out
          have h2 := HN.out
          rw [HW1.out] at h1
          rw [HW2.out] at h2
          exact ⟨rfl, by first | exact h1.drew | exact h2.drew⟩
end Go.Proofs.Ytadhboioaacaeaa
