/- The net: Cut, of a nil net too. -/
import Derived.Test.YtadhboioaacaeaaNetSwap
namespace Go.Proofs.Ytadhboioaacaeaa
open Go.RowKit
set_option maxHeartbeats 2000000
set_option maxRecDepth 100000
set_option linter.unusedVariables false

theorem cut_nil (a b : Int) (on : Bool) (w : World) : Calls Try.prog 14 #[.pointer none, .int .i64 a, .int .i64 b, .bool on] w fun e w' => e = .returned (.tuple #[]) ∧ w = w' := by
  go_enter Try.func14, Try.ntmps14
  go_wp2_with fail
  go_end0
  exact ⟨rfl, rfl⟩

/-- the ends that are cut behind a call of Cut -/
def cutC (C : Int → Int → Bool) (a b : Int) (on : Bool) : Int → Int → Bool := fun x y => if x = min a b ∧ y = max a b then on else C x y
theorem cutD_put {D : DataW Unit} {C : Int → Int → Bool} (hD : CutD D C) (hI : Maps.IsMap D) (a b : Int) {l : Lit} (hl : keyOf Try.prog 53 (endsV (min a b) (max a b)) = some l) (d : DataW Unit) : CutD (D.put l d) (cutC C a b true) := by
  intro x y l' hl'
  unfold cutC
  by_cases e : x = min a b ∧ y = max a b
  · rw [if_pos e]
    obtain ⟨rfl, rfl⟩ := e
    rw [hl] at hl'
    injection hl' with hl'
    subst hl'
    exact Maps.has_put_same hI (endsKey.key hl) d
  · rw [if_neg e, Maps.has_put_other ?_ d]
    · exact hD x y l' hl'
    · rintro rfl
      exact e (endsV_inj (endsKey.inj hl' hl))
theorem cutD_del {D : DataW Unit} {C : Int → Int → Bool} (hD : CutD D C) (a b : Int) {l : Lit} (hl : keyOf Try.prog 53 (endsV (min a b) (max a b)) = some l) : CutD (D.del l) (cutC C a b false) := by
  intro x y l' hl'
  unfold cutC
  by_cases e : x = min a b ∧ y = max a b
  · rw [if_pos e]
    obtain ⟨rfl, rfl⟩ := e
    rw [hl] at hl'
    injection hl' with hl'
    subst hl'
    exact Maps.has_del_same
  · rw [if_neg e, Maps.has_del_other ?_]
    · exact hD x y l' hl'
    · rintro rfl
      exact e (endsV_inj (endsKey.inj hl' hl))
theorem netStep_map {S : Nat → Prop} {g k k' r : Nat} {ps : List Pk} {C : Int → Int → Bool} {w X w' : World} {v : Value} {D D' : DataW Unit}
    (hB : BlkIs X g 51 #[v, .map (some r)]) (hr : X.ownsRow 0 28 3 v ps.length (pkVs ps)) (hm0 : X.ownsMap Try.prog 53 (unitElem (H := Unit)) r k' D') (s1 : S g) (s2 : S r) (s3 : ∀ x, v.ownBlock = some x → S x)
    (hC : Chg S w X) (hg : X.grownBy w' (some r)) (hm : w'.ownsMap Try.prog 53 (unitElem (H := Unit)) r k D) (hD : CutD D C) : NetStep S g w w' ps k C := by
  have hne := blk_ne_map hm0 hB
  have hne2 := own_ne_map hm0 hr
  exact ⟨S, ⟨v, r, D, hB.grown hg (by simpa using hne), own_chg hr (S := fun b => b = r) ((Chg.refl _ _).grown hg (fun b hb _ => by injection hb with hb; exact hb.symm)) (fun b hb e => hne2 (by rw [hb, e])), hm, hD, s1, s2, s3⟩,
    hC.grown hg (fun b hb _ => by injection hb with hb; subst hb; exact s2), fun b hb => .inl hb⟩

theorem cut_any (S : Nat → Prop) (g k : Nat) (ps : List Pk) (C : Int → Int → Bool) (a b : Int) (on : Bool) (w : World) (h : NetIs w S g ps k C) (hk : k ≤ 1000000) (ha : -9223372036854775808 ≤ a ∧ a ≤ 9223372036854775807) (hb : -9223372036854775808 ≤ b ∧ b ≤ 9223372036854775807) :
    Calls Try.prog 14 #[.pointer (some ⟨g, 0, none⟩), .int .i64 a, .int .i64 b, .bool on] w fun e w' => e = .returned (.tuple #[]) ∧ NetStep S g w w' ps (k + 1) (cutC C a b on) := by
  obtain ⟨v, r, D, hB, hr, hm, hD, s1, s2, s3⟩ := id h
  have hg := hB.lt
  have hc1 := hB.cell 1
  simp at hc1
  obtain ⟨l, hl⟩ := endsV_key (min a b) (max a b) (by simp [Lit.wf, IntKind.min, IntKind.max, IntKind.signed, IntKind.bits]; omega) (by simp [Lit.wf, IntKind.min, IntKind.max, IntKind.signed, IntKind.bits]; omega)
  have Hend := Lib.hid (ends_any a b)
  have KS0 : ∀ wx, Below w.heap.size w wx → wx.cell? ⟨g, 1, none⟩ = some (.map (some r)) := fun wx hb => (hb.cell (p := ⟨g, 1, none⟩) hg).trans hc1
  have KM0 : ∀ wx, Below w.heap.size w wx → wx.ownsMap Try.prog 53 (unitElem (H := Unit)) r k D := fun wx hb => map_chg hm (Chg.of_below (S := fun _ => False) hb) (fun h => h)
  have KT0 : ∀ wx w', Below w.heap.size w wx → wx.mapTurned w' r → w'.cell? ⟨g, 1, none⟩ = some (.map (some r)) := fun wx w' hb ht =>
    (World.cell?_of_block (a := ⟨g, 1, none⟩) (ht.grown.block g (Nat.lt_of_lt_of_le hg hb.size) (by simpa using blk_ne_map hm hB))).trans (KS0 wx hb)
  have KS := Lib.hid KS0; have KM := Lib.hid KM0; have KT := Lib.hid KT0
  clear KS0 KM0 KT0
  cases on with
  | false =>
    have KE0 : ∀ wx w', Below w.heap.size w wx → w'.ownsMap Try.prog 53 (unitElem (H := Unit)) r k (D.del l) → wx.mapTurned w' r → NetStep S g w w' ps (k + 1) (cutC C a b false) := fun wx w' hb hm' ht =>
      netStep_map (hB.below hb hg) (own_below hr hb (fun q hq => (hr.lt q hq).2)) (KM.out wx hb) s1 s2 s3 (Chg.of_below hb) ht.grown (hm'.mono (Nat.le_succ k)) (cutD_del hD a b hl)
    have KE := Lib.hid KE0; have Hl := Lib.hid hl
    clear KE0
    clear h hB hr hm hD s3 hl
    have hmn := fun w => run_eql_map_nil (P := Try.prog) w 49 _ _ (some r) Try.underlying49
    go_enter Try.func14, Try.ntmps14
    go_wp2_with fail
    go_region_held3 (fun wx => wx.cell? ⟨g, 1, none⟩ = some (.map (some r))) (first | exact KS.out _ (Below.refl _ _).drew | exact KS.out _ HB2.out | exact H3c)
      ((first
        | (go_at_call 30; refine (Hend.out _ ha hb).mono ?_; rintro e w2 ⟨rfl, hb2⟩; have HB2 : Hid (Below w.heap.size w w2) := Lib.hid (below_undrew hb2); clear hb2)
        | (refine step_delete_own (by rfl) _ _ _ _ (by rfl) 55 endsKey Try.underlying49 _ r k D (by rfl) (KM.out _ HB2.out) (endsV (min a b) (max a b)) l (by rfl) Hl.out ?_; intro w3 hm3 ht3; have H3c := KT.out _ _ HB2.out ht3; have HF := Lib.hid (KE.out _ _ HB2.out hm3 ht3); clear hm3 ht3)))
    all_goals
      go_wp2_with fail
      go_end0
      exact ⟨rfl, HF.out⟩
  | true =>
    have KE0 : ∀ wx w', Below w.heap.size w wx → w'.ownsMap Try.prog 53 (unitElem (H := Unit)) r (k + 1) (D.put l (.agg [])) → wx.mapTurned w' r → NetStep S g w w' ps (k + 1) (cutC C a b true) := fun wx w' hb hm' ht =>
      netStep_map (hB.below hb hg) (own_below hr hb (fun q hq => (hr.lt q hq).2)) (KM.out wx hb) s1 s2 s3 (Chg.of_below hb) ht.grown hm' (cutD_put hD hm.isMap a b hl _)
    have KU0 : ∀ wx, Below w.heap.size w wx → ∃ w', (Instr.mapUpdate 49 (.map (some r)) (endsV (min a b) (max a b)) (.agg #[])).run Try.prog wx = .ok () w' ∧ w'.ownsMap Try.prog 53 (unitElem (H := Unit)) r (k + 1) (D.put l (.agg [])) ∧ wx.mapTurned w' r := fun wx hb =>
      (KM.out wx hb).store endsKey Try.underlying49 (by simp only [maxLen]; omega) hl unitElem_mk
    have KE := Lib.hid KE0; have KU := Lib.hid KU0
    clear KE0 KU0
    clear h hB hr hm hD s3 hl
    have hmn := fun w => run_eql_map_nil (P := Try.prog) w 49 _ _ (some r) Try.underlying49
    go_enter Try.func14, Try.ntmps14
    go_wp2_with fail
    go_region_held3 (fun wx => wx.cell? ⟨g, 1, none⟩ = some (.map (some r))) (first | exact KS.out _ (Below.refl _ _).drew | exact KS.out _ HB2.out | exact H3c)
      ((go_at_call 30; refine (Hend.out _ ha hb).mono ?_; rintro e w2 ⟨rfl, hb2⟩; have HB2 : Hid (Below w.heap.size w w2) := Lib.hid (below_undrew hb2); clear hb2; obtain ⟨w3, hrun3, hm3, ht3⟩ := KU.out w2 HB2.out; have H3c := KT.out _ _ HB2.out ht3; have HF := Lib.hid (KE.out _ _ HB2.out hm3 ht3); clear hm3 ht3))
    all_goals
      go_wp2_with fail
      go_end0
      exact ⟨rfl, HF.out⟩
end Go.Proofs.Ytadhboioaacaeaa
