/- The net: Double, Swap, of a nil net too. -/
import Derived.Test.YtadhboioaacaeaaNetTake
import Derived.BigRegion
namespace Go.Proofs.Ytadhboioaacaeaa
open Go.RowKit
set_option maxHeartbeats 2000000
set_option maxRecDepth 100000
set_option linter.unusedVariables false

theorem double_nil (j : Int) (w : World) : Calls Try.prog 10 #[.pointer none, .int .i64 j] w fun e w' => e = .returned (.bool false) ∧ w = w' := by
  go_enter Try.func10, Try.ntmps10
  go_wp2_with fail
  refine (is_nil j _).mono ?_
  rintro e w1 ⟨rfl, rfl⟩
  go_wp2_with fail
  go_ret
  exact ⟨rfl, rfl⟩
theorem swap_nil (j i : Int) (w : World) : Calls Try.prog 22 #[.pointer none, .int .i64 j, .int .i64 i] w fun e w' => e = .returned (.bool false) ∧ w = w' := by
  go_enter Try.func22, Try.ntmps22
  go_wp2_with fail
  refine (is_nil j _).mono ?_
  rintro e w1 ⟨rfl, rfl⟩
  go_wp2_with fail
  go_ret
  exact ⟨rfl, rfl⟩

def dblB (ps : List Pk) (j : Int) : Bool := hasB ps j && decide (ps.length < 2000)
def dblP (ps : List Pk) (j : Int) : List Pk := if dblB ps j then ps ++ [getP ps j] else ps
theorem double_any (S : Nat → Prop) (g k : Nat) (ps : List Pk) (C : Int → Int → Bool) (j : Int) (w : World) (h : NetIs w S g ps k C) :
    Calls Try.prog 10 #[.pointer (some ⟨g, 0, none⟩), .int .i64 j] w fun e w' => e = .returned (.bool (dblB ps j)) ∧ NetStep S g w w' (dblP ps j) k C := by
  have hi := is_any S g k ps C j w h
  cases hb : hasB ps j with
  | false =>
    have hv : dblB ps j = false := by unfold dblB; rw [hb]; rfl
    have hp : dblP ps j = ps := by unfold dblP; rw [hv]; rfl
    rw [hv, hp]
    rw [hb] at hi
    have Hi := Lib.hid hi; have Hh := Lib.hid h
    clear h hi hb hv hp
    go_enter Try.func10, Try.ntmps10
    go_wp2_with fail
    refine Hi.out.mono ?_
    rintro e w1 ⟨rfl, rfl⟩
    go_wp2_with fail
    go_ret
    exact ⟨rfl, NetIs.same Hh.out (Below.refl _ _)⟩
  | true =>
    obtain ⟨n, rfl, hn⟩ := hasB_nat hb
    obtain ⟨p, hpn⟩ : ∃ p, ps[n]? = some p := ⟨_, List.getElem?_eq_getElem hn⟩
    have hgp := getP_yes hpn
    obtain ⟨x, y, s⟩ := p
    rw [hb] at hi
    obtain ⟨v, r, D, hB, hr, hm, hD, s1, s2, s3⟩ := id h
    obtain ⟨q, c, rfl, _, hq⟩ := hr.form (by omega)
    have hnc := own_cap hr (by omega)
    have hc0 := hB.cell 0; have hf0 := hB.free 0
    simp at hc0
    by_cases hful : 2000 ≤ ps.length
    · have hv : dblB ps (n : Int) = false := by unfold dblB; simp; omega
      have hp : dblP ps (n : Int) = ps := by unfold dblP; rw [hv]; rfl
      rw [hv, hp]
      have d1 : decide (2000 ≤ ps.length) = true := by simpa using hful
      have d2 : (2000 : Int) ≤ (ps.length : Int) := by omega
      have Hi := Lib.hid hi; have Hh := Lib.hid h
      clear h hi hb hv hp hB hr hm hD s3 hpn hgp
      go_enter Try.func10, Try.ntmps10
      go_wp2_with fail
      refine Hi.out.mono ?_
      rintro e w1 ⟨rfl, rfl⟩
      go_wp2_with fail
      go_ret
      exact ⟨rfl, NetIs.same Hh.out (Below.refl _ _)⟩
    · have hv : dblB ps (n : Int) = true := by unfold dblB; rw [hb]; simp; omega
      have hp : dblP ps (n : Int) = ps ++ [(x, y, s)] := by unfold dblP; rw [hv, hgp]; rfl
      rw [hv, hp]
      have d1 : decide (2000 ≤ ps.length) = false := by simpa using hful
      have d2 : (ps.length : Int) < 2000 := by omega
      have hlen : ps.length < 2000 := by omega
      have n0 : (0 : Int) ≤ (n : Int) := by omega
      have n1 : (n : Int) < (ps.length : Int) := by omega
      have hg := hB.lt
      obtain ⟨i0, hi0, hz0, hz1, hz2⟩ := info_parts info_pk
      have k0 := (hr.cellAt (n * 3) (by omega)).trans (pkVs_get ps n 0 _ hpn (by omega))
      have k1 := (hr.cellAt (n * 3 + 1) (by omega)).trans (pkVs_get ps n 1 _ hpn (by omega))
      have k2 := (hr.cellAt (n * 3 + 2) (by omega)).trans (pkVs_get ps n 2 _ hpn (by omega))
      simp [pkC] at k0 k1 k2
      have KE : ∀ g' c' w4, ((w.alloc (.cells #[.int .i64 x, .int .i64 y, .string s] 28)).drew).grownBy w4 (Value.slice (some ⟨q, 0, none⟩) ps.length c).ownBlock → w4.ownsRow 0 28 3 (.slice (some ⟨g', 0, none⟩) (ps.length + 1) c') (ps.length + 1) (pkVs ps ++ [.int .i64 x, .int .i64 y, .string s]) →
          ((Value.slice (some ⟨q, 0, none⟩) ps.length c).ownBlock = some g' ∨ g' = w.heap.size + 1) → NetStep S g w (w4.setCell ⟨g, 0, none⟩ (.slice (some ⟨g', 0, none⟩) (ps.length + 1) c')) (ps ++ [(x, y, s)]) k C ∧ w4.cell? ⟨g, 0, none⟩ = some (.slice (some ⟨q, 0, none⟩) ps.length c) ∧ w4.frozen? ⟨g, 0, none⟩ = false := fun g' c' w4 hgr hown hat => by
        have hbx : Below w.heap.size w ((w.alloc (.cells #[.int .i64 x, .int .i64 y, .string s] 28)).drew) := ((Below.refl _ _).alloc (Nat.le_refl _) _).drew
        refine ⟨netStep_row (hB.below hbx hg) (own_below hr hbx (fun q hq => (hr.lt q hq).2)) (map_chg hm (Chg.of_below (S := fun _ => False) hbx) (fun h => h)) hD s1 s2 s3 (Chg.of_below hbx) hgr
          (by rw [List.length_append, pkVs_append]; exact hown) (fun b hbb => by
            obtain rfl : g' = b := by simpa [Value.ownBlock] using hbb
            exact hat.imp id (fun e => by rw [e]; simp)), ?_, ?_⟩
        · have := ((hB.below hbx hg).grown hgr (Ne.symm (own_ne_blk (own_below hr hbx (fun q hq => (hr.lt q hq).2)) (hB.below hbx hg) (by decide)))).cell 0
          simpa using this
        · exact ((hB.below hbx hg).grown hgr (Ne.symm (own_ne_blk (own_below hr hbx (fun q hq => (hr.lt q hq).2)) (hB.below hbx hg) (by decide)))).free 0
      have KE := Lib.hid KE
      have HR := Lib.hid hr
      have Hi := Lib.hid hi
      clear h hi hb hv hp hB hr hm hD s3 hpn hgp hful
      go_enter Try.func10, Try.ntmps10
      go_wp2_with fail
      refine Hi.out.mono ?_
      rintro e w1 ⟨rfl, rfl⟩
      go_wp2_with fail
      go_region_law (refine step_append_lies _ (by rfl) _ _ _ (by rfl) 0 28 i0 _ 3 32 Try.underlying39 hi0 hz0 hz1 hz2 rfl (by omega) _ _ _ (by rfl) ((HR.out.alloc _).drew) ⟨w.heap.size, 0, none⟩ 1 1 [.int .i64 x, .int .i64 y, .string s] (by rfl) (by rfl) (World.news_of_block (cs := #[.int .i64 x, .int .i64 y, .string s]) (t := 28) (fr := (0, 0)) (heap_alloc_new w _)) (by simp [Value.oneCell']) (by omega) (by simp only [maxLen]; omega) (by omega) (Nat.zero_le _) (w.heap.size + 1) (by simp) ?_; intro g' c' w4 hown4 hgr4 hat4 hlt4; have HF := Lib.hid (KE.out _ _ _ hgr4 hown4 hat4).1; have q5 := (KE.out _ _ _ hgr4 hown4 hat4).2.1; have q6 := (KE.out _ _ _ hgr4 hown4 hat4).2.2; clear hown4 hgr4 hat4)
      all_goals
        go_wp2_with fail
        go_ret
        exact ⟨rfl, HF.out⟩

def swpB (ps : List Pk) (j i : Int) : Bool := hasB ps j && hasB ps i
def swpP (ps : List Pk) (j i : Int) : List Pk := if swpB ps j i then (ps.set j.toNat (getP ps i)).set i.toNat (getP ps j) else ps
end Go.Proofs.Ytadhboioaacaeaa
