/- chapter 13: Merge of tables. -/
import Derived.Test.YtfkkcgdniepgoaaGreatCTableMergesSortNil
import Derived.Test.YtfkkcgdniepgoaaGreatJTableMerges7
import Derived.Test.YtfkkcgdniepgoaaGreatJTableMerges8

namespace Go.Proofs.YtfkkcgdniepgoaaGreat
open Go.RowKit
set_option maxHeartbeats 4000000
set_option maxRecDepth 100000
set_option linter.unusedVariables false

def tblPs (ts : List (Nat × List En)) : List Value := ts.map fun t => .pointer (some ⟨t.1, 0, none⟩)
def flatE (ts : List (Nat × List En)) : List En := ts.flatMap fun t => t.2
theorem tblPs_get (ts : List (Nat × List En)) (k : Nat) (t : Nat × List En) (h : ts[k]? = some t) : (tblPs ts)[k]? = some (.pointer (some ⟨t.1, 0, none⟩)) := by
  unfold tblPs; rw [List.getElem?_map, h]; rfl
theorem flatE_snoc (ts : List (Nat × List En)) (k : Nat) (t : Nat × List En) (h : ts[k]? = some t) : flatE (ts.take (k + 1)) = flatE (ts.take k) ++ t.2 := by
  unfold flatE; rw [List.take_add_one, h, List.flatMap_append]; simp
theorem flatE_le (ts : List (Nat × List En)) (k : Nat) : (flatE (ts.take k)).length ≤ (flatE ts).length := by
  unfold flatE
  conv => rhs; rw [← List.take_append_drop k ts, List.flatMap_append, List.length_append]
  omega

theorem mergeT_any (A : Option Addr) (n c B base : Nat) (ts : List (Nat × List En)) (w : World) (hr : SlR w B 1 A n (tblPs ts)) (hB : B ≤ w.heap.size) (ht : ∀ t ∈ ts, TblIs w base t.1 t.2) (hn : n ≤ 1000) (hm : (flatE ts).length ≤ 1000) :
    Calls Tryz.prog 29 #[.slice A n c] w fun x w' => ∃ u l', x = .returned (.tuple #[u, .int .i64 0]) ∧ l'.Perm (flatE ts) ∧ OrderE l' ∧ w'.ownsRow w.heap.size 53 3 u (dedE l').length (enVs (dedE l')) ∧ Below w.heap.size w w' := by
  obtain ⟨i0, hi0, hz0, hz1, hz2⟩ := info_parts info_en
  have hl : ts.length = n := by have := hr.len; unfold tblPs at this; rw [List.length_map] at this; omega
  subst hl
  have Hr := Lib.hid hr; have Ht := Lib.hid ht; have Hl : Hid (ts.length = ts.length) := Lib.hid rfl
  clear hr ht
  go_enter Tryz.func29, Tryz.ntmps29
  go_wp2_with fail
  go_loopw [4, 9] (fun o i wr => ∃ (k : Nat) (u : Value), u = o ∧ k ≤ ts.length ∧ i = .int .i64 (k : Int) ∧ Hid (wr.ownsRow w.heap.size 53 3 u (flatE (ts.take k)).length (enVs (flatE (ts.take k))) ∧ Below w.heap.size w wr)) (fun _ i _ => ts.length - (intOf i).toNat)
  case atStart => exact ⟨0, _, rfl, Nat.zero_le _, rfl, Lib.hid ⟨World.ownsRow_nil _ _ _ _, Below.refl _ _⟩⟩
  case round =>
    obtain ⟨k, u, rfl, hk, rfl, HI⟩ := hrel
    have hk0 : 0 ≤ (k : Int) := by omega
    have hbs := HI.out.2.size
    by_cases hlt : k < ts.length
    · obtain ⟨t, htk⟩ : ∃ t, ts[k]? = some t := ⟨_, List.getElem?_eq_getElem hlt⟩
      obtain ⟨ad, v, rfl, had, hv, hc⟩ := (Hr.out.below (HI.out.2.mono hB)).get (k := k) (by have := Hl.out; omega)
      rw [tblPs_get ts k t htk] at hv
      injection hv with hv
      subst hv
      obtain ⟨vt, hBt, hbt, hot⟩ := (Ht.out t (List.mem_of_getElem? htk)).below HI.out.2 (Nat.le_refl _)
      obtain ⟨At, ct, rfl, hnct⟩ := own_slice hot
      have hc0 := hBt.cell 0
      simp at hc0
      have hsn := flatE_snoc ts k t htk
      have hle := flatE_le ts (k + 1)
      have hlw : (k : Int) < (ts.length : Int) := by have := Hl.out; omega
      have hk9 : (k : Int) ≤ 1000000 := by omega
      have hok := HI.out.1
      have hlt' : (flatE (ts.take (k + 1))).length = (flatE (ts.take k)).length + t.2.length := by rw [hsn, List.length_append]
      generalize hF : flatE (ts.take k) = F at hsn hlt' hok
      have Hok := Lib.hid hok; have Hrt := Lib.hid (SlR.own hot); have Hsn := Lib.hid hsn
      clear hok hot hBt hsn hF
      go_wp2_with (at_builtin; refine wpList_append_sl _ rfl (.tmp 15) (.tmp 19) _ rfl w.heap.size 53 i0 _ 3 24 Tryz.underlying22 hi0 hz0 hz1 hz2 rfl (by omega) u F.length (enVs F) rfl Hok.out wr.heap.size At t.2.length ct (enVs t.2) rfl Hrt.out (enVs_one t.2) (by simp only [maxLen]; omega) (by omega) (by omega) ?_; intro v1 w1 hown1 hg1 hat1)
      have hb1 : Below w.heap.size w w1 := HI.out.2.grown hg1 (by omega) (fun q hq => (Hok.out.lt q hq).1)
      have hfin : Hid (w1.ownsRow w.heap.size 53 3 v1 (flatE (ts.take (k + 1))).length (enVs (flatE (ts.take (k + 1)))) ∧ Below w.heap.size w w1) := Lib.hid ⟨by rw [hlt', Hsn.out, enVs_append]; exact hown1, hb1⟩
      clear hown1 hg1 hat1 hb1
      go_wp2_with fail
      go_roundw
      case rel => exact ⟨k + 1, _, rfl, by omega, by go_num, hfin⟩
      case measure => simp [intOf]; omega
    · obtain rfl : k = ts.length := by omega
      have hown := HI.out.1
      rw [List.take_length] at hown
      have hb := HI.out.2
      obtain ⟨A1, c1, rfl, hnc⟩ := own_slice hown
      by_cases h0 : (flatE ts).length = 0
      · have hf : flatE ts = [] := List.eq_nil_of_length_eq_zero h0
        rw [hf] at hown ⊢
        have Hown := Lib.hid hown; have Hb := Lib.hid hb; have Hf := Lib.hid hf
        clear hown hb HI hf
        try simp only [List.length_nil]
        go_wp2_with fail
        refine (sortNil_any _ _ _ _).mono ?_
        rintro e w1 ⟨rfl, hb1⟩
        have Hb1 := Lib.hid hb1
        clear hb1
        go_wp2_with fail
        refine (compactFew_any _ _ _ _ (by omega)).mono ?_
        rintro e w2 ⟨rfl, rfl⟩
        go_wp2_with fail
        go_ret2
        exact ⟨_, [], rfl, by rw [Hf.out], List.Pairwise.nil, own_below Hown.out Hb1.out (fun q hq => (Hown.out.lt q hq).2), Hb.out.trans (Hb1.out.mono Hb.out.size)⟩
      · obtain ⟨g, c', hv', hgb, hgl⟩ := hown.form (by omega)
        injection hv' with hv1 hv2 hv3
        subst hv1 hv3
        have hso := sortEn_any w.heap.size g (flatE ts).length c1 (flatE ts) wr hown (by omega)
        have Hso := Lib.hid hso; have Hb := Lib.hid hb
        clear hown hb HI hso
        go_wp2_with fail
        refine Hso.out.mono ?_
        rintro e w1 ⟨rfl, l', hp, ho, hown1, hg1⟩
        have Hp := Lib.hid hp; have Ho := Lib.hid ho
        have Hb1 := Lib.hid (Hb.out.grown hg1 (by omega) (fun q hq => by injection hq with hq; omega))
        have hcm := compact_any w.heap.size g (flatE ts).length c1 l' w1 hown1 (by omega)
        have Hcm := Lib.hid hcm
        have hgl1 := (hown1.lt g rfl).1
        clear hp ho hown1 hg1 hcm Hso
        go_wp2_with fail
        refine Hcm.out.mono ?_
        rintro e w2 ⟨u, rfl, hown2, hg2⟩
        have Hown2 := Lib.hid hown2
        have Hb2 := Lib.hid (Hb1.out.grown hg2 (by have := Hb1.out.size; omega) (fun q hq => by injection hq with hq; omega))
        clear hown2 hg2 Hcm
        go_wp2_with fail
        go_ret2
        exact ⟨u, l', rfl, Hp.out, Ho.out, Hown2.out, Hb2.out⟩

theorem mergeNil_any (A : Option Addr) (n c B base : Nat) (ts : List (Nat × List En)) (w : World) (hr : SlR w B 1 A n (tblPs ts ++ [.pointer none])) (hB : B ≤ w.heap.size) (ht : ∀ t ∈ ts, TblIs w base t.1 t.2) (hn : n ≤ 1000) (hm : (flatE ts).length ≤ 1000) :
    Calls Tryz.prog 29 #[.slice A n c] w fun x w' => x = .returned (.tuple #[.slice none 0 0, .int .i64 1]) ∧ Below w.heap.size w w' := by
  obtain ⟨i0, hi0, hz0, hz1, hz2⟩ := info_parts info_en
  have hl : ts.length + 1 = n := by have := hr.len; unfold tblPs at this; rw [List.length_append, List.length_map] at this; simpa using this
  have Hr := Lib.hid hr; have Ht := Lib.hid ht; have Hl := Lib.hid hl
  clear hr ht hl
  go_enter Tryz.func29, Tryz.ntmps29
  go_wp2_with fail
  go_loopw [4, 9] (fun o i wr => ∃ (k : Nat) (u : Value), u = o ∧ k ≤ ts.length ∧ i = .int .i64 (k : Int) ∧ Hid (wr.ownsRow w.heap.size 53 3 u (flatE (ts.take k)).length (enVs (flatE (ts.take k))) ∧ Below w.heap.size w wr)) (fun _ i _ => n - (intOf i).toNat)
  case atStart => exact ⟨0, _, rfl, Nat.zero_le _, rfl, Lib.hid ⟨World.ownsRow_nil _ _ _ _, Below.refl _ _⟩⟩
  case round =>
    obtain ⟨k, u, rfl, hk, rfl, HI⟩ := hrel
    have hk0 : 0 ≤ (k : Int) := by omega
    have hbs := HI.out.2.size
    by_cases hlt : k < ts.length
    · obtain ⟨t, htk⟩ : ∃ t, ts[k]? = some t := ⟨_, List.getElem?_eq_getElem hlt⟩
      obtain ⟨ad, v, rfl, had, hv, hc⟩ := (Hr.out.below (HI.out.2.mono hB)).get (k := k) (by have := Hl.out; omega)
      rw [List.getElem?_append_left (by unfold tblPs; rw [List.length_map]; exact hlt), tblPs_get ts k t htk] at hv
      injection hv with hv
      subst hv
      obtain ⟨vt, hBt, hbt, hot⟩ := (Ht.out t (List.mem_of_getElem? htk)).below HI.out.2 (Nat.le_refl _)
      obtain ⟨At, ct, rfl, hnct⟩ := own_slice hot
      have hc0 := hBt.cell 0
      simp at hc0
      have hsn := flatE_snoc ts k t htk
      have hle := flatE_le ts (k + 1)
      have hlw : (k : Int) < (n : Int) := by have := Hl.out; omega
      have hk9 : (k : Int) ≤ 1000000 := by omega
      have hok := HI.out.1
      have hlt' : (flatE (ts.take (k + 1))).length = (flatE (ts.take k)).length + t.2.length := by rw [hsn, List.length_append]
      generalize hF : flatE (ts.take k) = F at hsn hlt' hok
      have Hok := Lib.hid hok; have Hrt := Lib.hid (SlR.own hot); have Hsn := Lib.hid hsn
      clear hok hot hBt hsn hF
      go_wp2_with (at_builtin; refine wpList_append_sl _ rfl (.tmp 15) (.tmp 19) _ rfl w.heap.size 53 i0 _ 3 24 Tryz.underlying22 hi0 hz0 hz1 hz2 rfl (by omega) u F.length (enVs F) rfl Hok.out wr.heap.size At t.2.length ct (enVs t.2) rfl Hrt.out (enVs_one t.2) (by simp only [maxLen]; omega) (by omega) (by omega) ?_; intro v1 w1 hown1 hg1 hat1)
      have hb1 : Below w.heap.size w w1 := HI.out.2.grown hg1 (by omega) (fun q hq => (Hok.out.lt q hq).1)
      have hfin : Hid (w1.ownsRow w.heap.size 53 3 v1 (flatE (ts.take (k + 1))).length (enVs (flatE (ts.take (k + 1)))) ∧ Below w.heap.size w w1) := Lib.hid ⟨by rw [hlt', Hsn.out, enVs_append]; exact hown1, hb1⟩
      clear hown1 hg1 hat1 hb1
      go_wp2_with fail
      go_roundw
      case rel => exact ⟨k + 1, _, rfl, by omega, by go_num, hfin⟩
      case measure => simp [intOf]; omega
    · obtain rfl : k = ts.length := by omega
      obtain ⟨ad, v, rfl, had, hv, hc⟩ := (Hr.out.below (HI.out.2.mono hB)).get (k := ts.length) (by have := Hl.out; omega)
      rw [List.getElem?_append_right (by unfold tblPs; rw [List.length_map]; exact Nat.le_refl _), show ts.length - (tblPs ts).length = 0 from by unfold tblPs; rw [List.length_map]; omega] at hv
      simp at hv
      subst hv
      have hlw : (((ts.length : Nat)) : Int) < (n : Int) := by have := Hl.out; omega
      go_wp2_with fail
      go_ret2
      exact ⟨rfl, HI.out.2⟩
end Go.Proofs.YtfkkcgdniepgoaaGreat
