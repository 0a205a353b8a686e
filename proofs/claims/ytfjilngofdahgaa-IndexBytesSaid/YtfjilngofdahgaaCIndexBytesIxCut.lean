/- chapter 14: Cut, walked. -/
import Derived.Test.YtfjilngofdahgaaCIndexBytesIxCutLaw
import Derived.Test.YtfjilngofdahgaaCIndexBytesIxAlive

namespace Go.Proofs.Ytfjilngofdahgaa
open Go.RowKit
set_option maxHeartbeats 4000000
set_option maxRecDepth 100000
set_option linter.unusedVariables false

/-- what a cut takes from a table -/
def goneT (p : Int) (t : Tb) : Nat := (addsE [] t).length - (cutE (addsE [] t) p).length
theorem goneL_eq (p : Int) (l : Lv) : goneL p l = (l.map (goneT p)).sum := rfl
theorem goneT_le (p : Int) (t : Tb) : goneT p t ≤ t.length := by
  have := (adds_le [] t).2
  simp only [List.length_nil, Nat.zero_add] at this
  unfold goneT; omega
theorem goneL_le (p : Int) (l : Lv) : goneL p l ≤ wL l := by
  rw [goneL_eq]
  induction l with
  | nil => simp [wL]
  | cons t l ih =>
    have := goneT_le p t
    unfold wL at *
    simp only [List.map_cons, List.sum_cons]
    omega
theorem take_snocT {α : Type} {l : List α} {k : Nat} {x : α} (h : l[k]? = some x) : l.take (k + 1) = l.take k ++ [x] := by
  obtain ⟨hk, hx⟩ := List.getElem?_eq_some_iff.1 h
  rw [List.take_succ_eq_append_getElem hk, hx]
theorem goneL_snoc {p : Int} {l : Lv} {j : Nat} {t : Tb} (h : l[j]? = some t) : goneL p (l.take (j + 1)) = goneL p (l.take j) + goneT p t := by
  rw [take_snocT h, goneL_eq, goneL_eq, List.map_append, List.sum_append]; simp
theorem cutL_snoc {p : Int} {l : Lv} {j : Nat} {t : Tb} (h : l[j]? = some t) : cutL p (l.take (j + 1)) = cutL p (l.take j) ++ (if 0 < (cutE (addsE [] t) p).length then [cutE (addsE [] t) p] else []) := by
  unfold cutL
  rw [take_snocT h, List.map_append, List.filter_append]
  congr 1
  by_cases h0 : 0 < (cutE (addsE [] t) p).length
  · rw [if_pos h0, List.map_cons, List.map_nil, List.filter_cons_of_pos (by simpa using h0), List.filter_nil]
  · rw [if_neg h0, List.map_cons, List.map_nil, List.filter_cons_of_neg (by simpa using h0), List.filter_nil]
theorem cutL_len (p : Int) (l : Lv) : (cutL p l).length ≤ l.length := by
  unfold cutL
  exact Nat.le_trans (List.length_filter_le _ _) (by simp)
theorem wL_take (l : Lv) (j : Nat) : wL (l.take j) ≤ wL l := by
  have := wL_append (l.take j) (l.drop j)
  rw [List.take_append_drop] at this; omega
theorem wLs_part {lv : List Lv} {k : Nat} {l : Lv} (h : lv[k]? = some l) : wLs (lv.take k) + wL l + 1 ≤ wLs lv := by
  have := congrArg wLs (split_at h)
  rw [wLs_append, wLs_cons] at this; omega
theorem goneLs_le (p : Int) (lv : List Lv) : (lv.map (goneL p)).sum ≤ wLs lv := by
  induction lv with
  | nil => simp [wLs]
  | cons l r ih =>
    have := goneL_le p l
    rw [wLs_cons]
    simp only [List.map_cons, List.sum_cons]
    omega
theorem goneLs_snoc {p : Int} {lv : List Lv} {k : Nat} {l : Lv} (h : lv[k]? = some l) : ((lv.take (k + 1)).map (goneL p)).sum = ((lv.take k).map (goneL p)).sum + goneL p l := by
  rw [take_snocT h, List.map_append, List.sum_append]; simp
theorem mid_len (f : Lv → Lv) {lv : List Lv} {k : Nat} (h : k ≤ lv.length) : ((lv.take k).map f ++ lv.drop k).length = lv.length := by
  rw [List.length_append, List.length_map, List.length_take, List.length_drop]; omega
theorem mid_get (f : Lv → Lv) {lv : List Lv} {k : Nat} {l : Lv} (h : lv[k]? = some l) : ((lv.take k).map f ++ lv.drop k)[k]? = some l := by
  obtain ⟨hk, hx⟩ := List.getElem?_eq_some_iff.1 h
  rw [List.getElem?_append_right (by rw [List.length_map, List.length_take]; omega), List.length_map, List.length_take, Nat.min_eq_left (by omega), Nat.sub_self, List.drop_eq_getElem_cons hk, hx]
  rfl
theorem mid_set (f : Lv → Lv) {lv : List Lv} {k : Nat} {l : Lv} (h : lv[k]? = some l) : ((lv.take k).map f ++ lv.drop k).set k (f l) = (lv.take (k + 1)).map f ++ lv.drop (k + 1) := by
  obtain ⟨hk, hx⟩ := List.getElem?_eq_some_iff.1 h
  rw [List.set_append_right _ _ (by rw [List.length_map, List.length_take]; omega), List.length_map, List.length_take, Nat.min_eq_left (by omega), Nat.sub_self, List.drop_eq_getElem_cons hk, hx, take_snocT h, List.map_append]
  simp
/-- a table more behind a level that is being made -/
theorem lv_snoc {w w9 : World} {B : Nat} {v u v9 : Value} {l : Lv} {t : Tb} {us : List Value} (ho : w.ownsRow 0 32 1 v l.length us)
    (hu : ∀ (j : Nat) (u' : Value) (t' : Tb), us[j]? = some u' → l[j]? = some t' → w.ownsRow 0 27 3 u' t'.length (enVs t') ∧ ∀ b, u'.ownBlock = some b → B ≤ b ∧ some b ≠ (none : Option Nat))
    (hut : w.ownsRow 0 27 3 u t.length (enVs t)) (huB : ∀ b, u.ownBlock = some b → B ≤ b) (hc : Chg (fun b => v.ownBlock = some b) w w9) (h9 : w9.ownsRow 0 32 1 v9 (l.length + 1) (us ++ [u])) :
    LvIs w9 (fun b => B ≤ b) none v9 (l ++ [t]) := by
  have hul : us.length = l.length := by have := ho.1; simpa using this
  refine ⟨us ++ [u], by rw [show (l ++ [t]).length = l.length + 1 from by simp]; exact h9, fun j u' t' k1 k2 => ?_⟩
  rcases Nat.lt_or_ge j l.length with hj | hj
  · rw [List.getElem?_append_left (by omega)] at k1
    rw [List.getElem?_append_left hj] at k2
    obtain ⟨k3, k4⟩ := hu j u' t' k1 k2
    exact ⟨own_chg k3 hc (fun q hq e => own_type k3 ho (by decide) hq e), k4⟩
  · rw [List.getElem?_append_right (by omega)] at k1
    rw [List.getElem?_append_right hj] at k2
    rcases Nat.eq_zero_or_pos (j - l.length) with h0 | h0
    · rw [h0] at k2; rw [hul, h0] at k1
      have e1 : u' = u := by simpa using k1.symm
      have e2 : t' = t := by simpa using k2.symm
      subst e1 e2
      exact ⟨own_chg hut hc (fun q hq e => own_type hut ho (by decide) hq e), fun b hb => ⟨huB b hb, by simp⟩⟩
    · rw [List.getElem?_eq_none (by simp; omega)] at k2; cases k2
theorem lv_inS {w : World} {S S' : Nat → Prop} {r : Option Nat} {v : Value} {l : Lv} (h : LvIs w S none v l) (hS : ∀ b, S b → b < w.heap.size → S' b ∧ some b ≠ r) : LvIs w S' r v l := by
  obtain ⟨us, ho, hu⟩ := h
  exact ⟨us, ho, fun j u t h1 h2 => ⟨(hu j u t h1 h2).1, fun b hb => hS b ((hu j u t h1 h2).2 b hb).1 ((hu j u t h1 h2).1.lt b hb).2⟩⟩

theorem cutX_any (S : Nat → Prop) (g : Nat) (room most : Int) (s : Tb × List Lv) (p : Int) (w : World) (h : IxIs w S g room most s) (hw : wX s ≤ 800000) :
    Calls Try.prog 27 #[.pointer (some ⟨g, 0, none⟩), .int .i64 p] w fun e w' => e = .returned (.int .i64 (goneI p s : Nat)) ∧ IxStep S g room most w w' (cutI p s) := by
  obtain ⟨j0, hj0, hy0, hy1, hy2⟩ := info_parts info_tb
  obtain ⟨mem, lv⟩ := s
  obtain ⟨T, r, v, vs, h⟩ := h
  rw [wX_eq] at hw
  dsimp only at hw
  have hfl := flats_len lv
  have hS : ∀ b, S b → b < w.heap.size := h.lt
  have k2 := h.blk.cell 2
  simp at k2
  have hcm := cut_any 0 T r mem p w h.tab (Nat.zero_le _) (by omega)
  obtain ⟨mc, hmc⟩ : ∃ mc, cutE mem p = mc := ⟨_, rfl⟩
  have hmcl : mc.length ≤ mem.length := by rw [← hmc]; exact cutE_le mem p
  rw [hmc] at hcm
  obtain ⟨N0, hN0⟩ : ∃ N0, mem.length - mc.length = N0 := ⟨_, rfl⟩
  have hN0le : N0 ≤ mem.length := by omega
  have hN0i : (mem.length : Int) - (mc.length : Int) = (N0 : Int) := by omega
  rw [hN0i] at hcm
  have H := Lib.hid h; have HS := Lib.hid hS; have Hcm := Lib.hid hcm; have Hmc := Lib.hid hmc; have HN0 := Lib.hid hN0
  have hlv9 : lv.length ≤ 900000 := by omega
  clear h hS hcm hmc hN0 hN0i
  go_enter Try.func27, Try.ntmps27
  go_wp2_with fail
  refine Hcm.out.mono ?_
  rintro e w1 ⟨rfl, ht1, hst1⟩
  obtain ⟨hm1, hm2⟩ := H.out.memStep ht1 hst1
  obtain ⟨Av, cv, rfl, hnv⟩ := own_slice H.out.row
  have k3 := hm1.blk.cell 3
  simp at k3
  have X1 := Lib.hid hm1; have C1 := Lib.hid hm2
  clear hm1 hm2 ht1 hst1 k2
  dsimp only at X1 k3
  go_wp2_with fail
  go_loopw [5, 25] (fun n i wr => ∃ (k N : Nat) (S2 : Nat → Prop) (vs2 : List Value), k ≤ lv.length ∧ i = .int .i64 (k : Int) ∧ n = .int .i64 (N : Int) ∧ Hid (N = N0 + ((lv.take k).map (goneL p)).sum) ∧ IxAt wr S2 g room most (mc, (lv.take k).map (cutL p) ++ lv.drop k) T r (.slice Av lv.length cv) vs2 ∧ Chg S w wr ∧ (∀ b, S2 b → S b ∨ w.heap.size ≤ b)) (fun _ i _ => lv.length - (intOf i).toNat)
  case atStart => exact ⟨0, N0, _, vs, Nat.zero_le _, rfl, rfl, Lib.hid (by simp), by simpa using X1.out, C1.out, fun b hb => by
    rcases hb with hb | hb
    · exact .inl hb
    · exact .inl (H.out.sr b hb.symm)⟩
  case round =>
    obtain ⟨k, N, S2, vs2, hk, rfl, rfl, HN, hx, hc, hs⟩ := hrel
    rename World => wo
    have hk0 : (0 : Int) ≤ (k : Int) := by omega
    have X := Lib.hid hx; have C := Lib.hid hc; have SS := Lib.hid hs
    clear hx hc hs
    by_cases hlt : k < lv.length
    · have hk1 : (k : Int) < (lv.length : Int) := by omega
      obtain ⟨l, hl⟩ : ∃ l, lv[k]? = some l := ⟨_, List.getElem?_eq_getElem hlt⟩
      obtain ⟨lvk, hlvk⟩ : ∃ lvk, (lv.take k).map (cutL p) ++ lv.drop k = lvk := ⟨_, rfl⟩
      have hlen : lvk.length = lv.length := by rw [← hlvk]; exact mid_len _ hk
      have hgetk : lvk[k]? = some l := by rw [← hlvk]; exact mid_get _ hl
      have hsetk : lvk.set k (cutL p l) = (lv.take (k + 1)).map (cutL p) ++ lv.drop (k + 1) := by rw [← hlvk]; exact mid_set _ hl
      have hNk := HN.out
      have hgs := goneLs_snoc (p := p) hl
      have hwp := wLs_part hl
      have hgl := goneLs_le p (lv.take k)
      have hgl2 := goneL_le p l
      have hN8 : N + goneL p l ≤ 900000 := by omega
      have hNn : N + goneL p l = N0 + ((lv.take (k + 1)).map (goneL p)).sum := by omega
      rw [hlvk] at X
      have hrow := X.out.row
      dsimp only at hrow
      rw [hlen] at hrow
      obtain ⟨o, cap, hAv, hcap⟩ := own_row hrow (by omega)
      injection hAv with hAv _ hcv0
      subst hAv hcv0
      obtain ⟨ad, vk, hA, had, hvk, hcv⟩ := (SlR.own hrow).get hlt
      injection hA with hA
      subst hA
      obtain ⟨hL, hsk⟩ := X.out.lev k vk l hvk hgetk
      obtain ⟨us, hou, hus⟩ := hL
      obtain ⟨Ak, ck, rfl, hnk⟩ := own_slice hou
      have had0 : (⟨o, 0, none⟩ : Addr).add k = ⟨o, k, none⟩ := by rw [Addr.add_lit, Nat.zero_add]
      rw [had0] at hcv
      have ho1 : o < wo.heap.size := (hrow.lt o rfl).2
      have hlw := flat_len l
      have hwl9 : wL l ≤ 900000 := by omega
      have hl9 : l.length ≤ 900000 := by omega
      have hl8 : l.flatten.length ≤ 900000 := by omega
      have KL : Hid (∀ wx, Below wo.heap.size wo wx → wx.ownsRow 0 32 1 (.slice Ak l.length ck) l.length us ∧ ∀ (j : Nat) (u : Value) (t : Tb), us[j]? = some u → l[j]? = some t → wx.ownsRow 0 27 3 u t.length (enVs t)) := Lib.hid (fun wx hb => ⟨own_below hou hb (fun q hq => (hou.lt q hq).2), fun j u t h1 h2 => own_below (hus j u t h1 h2).1 hb (fun q hq => ((hus j u t h1 h2).1.lt q hq).2)⟩)
      have Hlen := Lib.hid hlen; have Hgetk := Lib.hid hgetk; have Hsetk := Lib.hid hsetk; have HNn := Lib.hid hNn; have Hvk := Lib.hid hvk; have Hl := Lib.hid hl; have Hlw := Lib.hid hlw; have Hrow := Lib.hid hrow
      clear hlen hgetk hsetk hNk hgs hwp hgl hNn hrow hvk hou hus hsk hlvk hl had hlw
      go_wp2_with fail
      go_loopw [5, 8, 32] (fun n lf j wq => ∃ (q M : Nat), q ≤ l.length ∧ j = .int .i64 (q : Int) ∧ n = .int .i64 (M : Int) ∧ Hid (M = N + goneL p (l.take q)) ∧ Hid (LvIs wq (fun b => wo.heap.size ≤ b) none lf (cutL p (l.take q)) ∧ ∀ b, lf.ownBlock = some b → wo.heap.size ≤ b) ∧ Below wo.heap.size wo wq) (fun _ _ j _ => l.length - (intOf j).toNat)
      case atStart => exact ⟨0, N, Nat.zero_le _, rfl, rfl, Lib.hid (by simp [goneL]), Lib.hid ⟨by simpa [cutL] using LvIs.none _ _ _, fun b hb => by cases hb⟩, Below.refl _ _⟩
      case round =>
        obtain ⟨q, M, hq, rfl, rfl, HM, HLf, hb⟩ := hrel
        rename World => wi
        have hq0 : (0 : Int) ≤ (q : Int) := by omega
        have BI := Lib.hid hb
        clear hb
        by_cases hql : q < l.length
        · obtain ⟨ad2, u2, rfl, had2, hu2, hcu2⟩ := (SlR.own (KL.out _ BI.out).1).get hql
          have hq1 : (q : Int) < (l.length : Int) := by omega
          obtain ⟨t, ht⟩ : ∃ t, l[q]? = some t := ⟨_, List.getElem?_eq_getElem hql⟩
          have hot := (KL.out _ BI.out).2 q u2 t hu2 ht
          obtain ⟨At, ct, rfl, hnt⟩ := own_slice hot
          have hat : ∀ b, (Value.slice At t.length ct).ownBlock = some b → b < wi.heap.size := fun b hb => (hot.lt b hb).2
          have e2 := congrArg (fun x : Lv => x.flatten.length) (split_at ht)
          simp only [List.flatten_append, List.flatten_cons, List.length_append] at e2
          have htl : t.length ≤ 900000 := by omega
          have hgn := goneL_snoc (p := p) ht
          have hgle : goneL p (l.take (q + 1)) ≤ 900000 := by have h1 := goneL_le p (l.take (q + 1)); have h2 := wL_take l (q + 1); have h3 := Hlw.out; omega
          have hcn := cutL_snoc (p := p) ht
          have hal := (adds_le [] t).2
          simp only [List.length_nil, Nat.zero_add] at hal
          obtain ⟨ta, hta⟩ : ∃ ta, addsE [] t = ta := ⟨_, rfl⟩
          rw [hta] at hal hcn
          obtain ⟨tc, htc⟩ : ∃ tc, cutE ta p = tc := ⟨_, rfl⟩
          have hcl : tc.length ≤ ta.length := by rw [← htc]; exact cutE_le ta p
          rw [htc] at hcn
          have hgt : goneT p t = ta.length - tc.length := by unfold goneT; rw [hta, htc]
          have hM := HM.out
          obtain ⟨M', hM'⟩ : ∃ M', M + (ta.length - tc.length) = M' := ⟨_, rfl⟩
          have hMn : M' = N + goneL p (l.take (q + 1)) := by omega
          have hM8 : M' ≤ 1800000 := by omega
          have hwM : wrap64 ((M : Int) + ((ta.length : Int) - (tc.length : Int))) = (M' : Int) := by unfold wrap64; omega
          obtain ⟨l8, hl8⟩ : ∃ l8, cutL p (l.take q) = l8 := ⟨_, rfl⟩
          have hl8n : l8.length ≤ 900000 := by rw [← hl8]; have h1 := cutL_len p (l.take q); rw [List.length_take] at h1; omega
          rw [hl8] at HLf hcn
          obtain ⟨us8, ho8, hu8⟩ := HLf.out.1
          obtain ⟨A8, c8, rfl, hn8⟩ := own_slice ho8
          have hv8 := HLf.out.2
          have Hta := Lib.hid hta; have Htc := Lib.hid htc; have HMn := Lib.hid hMn; have HwM := Lib.hid hwM; have Hcn := Lib.hid hcn; have Ho8 := Lib.hid ho8; have Hu8 := Lib.hid hu8; have Hv8 := Lib.hid hv8; have Hot := Lib.hid hot; have Hat := Lib.hid hat
          clear hta htc hMn hcn hl8 ho8 hu8 hv8 hot hat hM' hM hgt hgn hgle e2 hu2 ht had2 HLf
          go_wp2_with fail
          refine (new_any wi).mono ?_
          rintro e w1 ⟨rfl, ht1, hb1⟩
          have T1 := Lib.hid (ht1 0); have B1 := Lib.hid hb1
          have hwl1 : wi.heap.size < w1.heap.size := by obtain ⟨v, k1, _⟩ := ht1 0; exact k1.lt
          have hap : 0 < t.length → ∀ ad, At = some ad → ad.block ≠ wi.heap.size ∧ some ad.block ≠ (none : Option Nat) := fun _ ad e => ⟨by have := Hat.out ad.block (by rw [e]; rfl); omega, by simp⟩
          have hadd := add_any 0 wi.heap.size none [] t At t.length ct w1 T1.out (by simp [SortedE]) (SlR.own (own_below Hot.out B1.out (fun q hq => (Hot.out.lt q hq).2))) hap (Nat.zero_le _) (by simp; omega)
          rw [Hta.out] at hadd
          have Hadd := Lib.hid hadd
          clear hadd hap ht1 hb1
          go_wp2_with fail
          refine Hadd.out.mono ?_
          rintro e w2 ⟨rfl, r2, ht2, hst2⟩
          have B2 : Hid (Below wi.heap.size wi w2) := Lib.hid (((Chg.of_below B1.out).trans hst2.chg (S := fun _ => False) (fun k hk hT => by rcases hT with h | h; omega; cases h)).below (fun k hk => hk.elim) (Nat.le_refl _))
          have R2 : Hid (∀ b, r2 = some b → wi.heap.size ≤ b) := Lib.hid (fun b hb => by
            rcases hst2.row with h | ⟨gg, h, h2⟩
            · rw [h] at hb; cases hb
            · rw [h] at hb; injection hb with hb; have := B1.out.size; omega)
          have hcut := cut_any 0 wi.heap.size r2 ta p w2 ht2 (Nat.zero_le _) (by omega)
          rw [Htc.out] at hcut
          have Hcut := Lib.hid hcut
          clear hcut ht2 hst2
          go_wp2_with fail
          refine Hcut.out.mono ?_
          rintro e w3 ⟨rfl, ht3, hst3⟩
          have B3 : Hid (Below wi.heap.size wi w3) := Lib.hid (((Chg.of_below B2.out).trans hst3.chg (S := fun _ => False) (fun k hk hT => by
            rcases hT with h | h
            · omega
            · have := R2.out k h.symm; omega)).below (fun k hk => hk.elim) (Nat.le_refl _))
          have T3 := Lib.hid ht3
          clear ht3 hst3
          go_wp2_with fail
          refine (len_any 0 wi.heap.size r2 tc w3 T3.out (by omega)).mono ?_
          rintro e w3' ⟨rfl, rfl⟩
          by_cases h0 : 0 < tc.length
          · have d0 : (0 : Int) < (tc.length : Int) := by omega
            go_wp2_with fail
            refine (all_any 0 wi.heap.size r2 tc w3 T3.out (by omega)).mono ?_
            rintro e w4 ⟨u, rfl, ho4, hb4⟩
            obtain ⟨Au, cu, rfl, hnu⟩ := own_slice ho4
            have B4 : Hid (Below wi.heap.size wi w4) := Lib.hid (B3.out.trans (hb4.mono B3.out.size))
            have O8 := Lib.hid (own_below Ho8.out B4.out (fun q hq => (Ho8.out.lt q hq).2))
            have O4 := Lib.hid ho4
            clear ho4 hb4
            go_wp2_with (at_builtin; refine wpList_append_lies _ rfl (.tmp 48) (.tmp 51) _ rfl 0 32 j0 _ 1 24 Try.underlying57 hj0 hy0 hy1 hy2 rfl (by omega) (.slice A8 l8.length c8) l8.length us8 rfl (O8.out.alloc _) ⟨w4.heap.size, 0, none⟩ 1 1 [.slice Au tc.length cu] rfl rfl (World.news_of_block (cs := #[.slice Au tc.length cu]) (heap_alloc_new w4 _)) (by simp [Value.oneCell']) (by omega) (by simp only [maxLen]; omega) (by omega) (by simp) (w4.heap.size + 1) (by simp) ?_; intro g9 cp w9 hown9 hgrow hat9 hlt9; have H9 := Lib.hid hown9; have HG := Lib.hid hgrow; have HA9 := Lib.hid hat9; clear hown9 hgrow hat9)
            have C9 : Hid (Chg (fun b => (Value.slice A8 l8.length c8).ownBlock = some b) w4 w9) := Lib.hid (((Chg.refl _ w4).alloc _).grown HG.out (fun k hk _ => hk))
            have B9 : Hid (Below wo.heap.size wo w9) := Lib.hid (((BI.out.trans (B4.out.mono BI.out.size)).alloc (by have := BI.out.size; have := B4.out.size; omega) _).grown HG.out (by have := BI.out.size; have := B4.out.size; simp; omega) (fun k hk => Hv8.out k hk))
            have hsn := lv_snoc (B := wo.heap.size) O8.out (fun j u' t' k1 k2 => ⟨own_below (Hu8.out j u' t' k1 k2).1 B4.out (fun q hq => ((Hu8.out j u' t' k1 k2).1.lt q hq).2), (Hu8.out j u' t' k1 k2).2⟩) (own_mono O4.out (Nat.zero_le _)) (fun b hb => by have h1 := (O4.out.lt b hb).1; have h2 := BI.out.size; have h3 := B3.out.size; omega) C9.out H9.out
            have HSN := Lib.hid hsn
            clear hsn
            go_roundw
            case rel => exact ⟨q + 1, M', by omega, by go_num, rfl, HMn, Lib.hid ⟨by rw [Hcn.out, if_pos h0]; exact HSN.out, fun b hb => by
              have e : g9 = b := by simpa [Value.ownBlock] using hb
              rcases HA9.out with h | h
              · exact Hv8.out b (by rw [← e]; exact h)
              · have h2 := BI.out.size; have h3 := B4.out.size; omega⟩, B9.out⟩
            case measure => simp [intOf]; omega
          · have d0 : ¬ ((0 : Int) < (tc.length : Int)) := by omega
            go_wp2_with fail
            go_roundw
            case rel => exact ⟨q + 1, M', by omega, by go_num, rfl, HMn, Lib.hid ⟨by
              rw [Hcn.out, if_neg h0, List.append_nil]
              exact LvIs.below ⟨us8, Ho8.out, Hu8.out⟩ B3.out, Hv8.out⟩, BI.out.trans (B3.out.mono BI.out.size)⟩
            case measure => simp [intOf]; omega
        · obtain rfl : q = l.length := by omega
          have dqq : decide (l.length < l.length) = false := by simp
          have hM := HM.out
          rw [List.take_of_length_le (Nat.le_refl _)] at hM HLf
          obtain ⟨us8, ho8, hu8⟩ := id HLf.out.1
          obtain ⟨A8, c8, rfl, hn8⟩ := own_slice ho8
          have hx6 := X.out.below BI.out
          have k36 := hx6.blk.cell 3
          have f6 := own_free (own_below Hrow.out BI.out (fun q hq => (Hrow.out.lt q hq).2)) k
          have hcv6 := (BI.out.cell (p := ⟨o, k, none⟩) ho1).trans hcv
          simp at k36
          have hx' : IxAt wo S2 g room most (mc, lvk) T r (.slice (some ⟨o, 0, none⟩) lvk.length cv) vs2 := by rw [Hlen.out]; exact X.out
          have hlev := hx'.level Hvk.out (Chg.of_below BI.out) (fun b => S2 b ∨ (wo.heap.size ≤ b ∧ b < wi.heap.size)) (fun b hb => .inl hb) (fun b hb => by
            rcases hb with hb | hb
            · exact Nat.lt_of_lt_of_le (X.out.lt b hb) BI.out.size
            · exact hb.2) (.slice A8 (cutL p l).length c8) (cutL p l) (lv_inS HLf.out.1 (fun b hb hlt => ⟨.inr ⟨hb, hlt⟩, fun e => by have := X.out.lt b (X.out.sr b e.symm); omega⟩)) (fun b hb => .inr ⟨HLf.out.2 b hb, (ho8.lt b hb).2⟩) (fun b hb => .inr (HLf.out.2 b hb))
          rw [Hlen.out, Hsetk.out] at hlev
          have HLEV := Lib.hid hlev
          have hMk : M = N0 + ((lv.take (k + 1)).map (goneL p)).sum := hM.trans HNn.out
          have HMk := Lib.hid hMk
          clear hlev hx' hx6 ho8 hu8 hM hMk hcv
          go_wp2_with fail
          go_roundw
          case rel => exact ⟨k + 1, M, _, _, by omega, by go_num, rfl, HMk, HLEV.out.1, C.out.trans HLEV.out.2 (fun b hb h => by
            rcases SS.out b h with h | h
            · exact h
            · omega), fun b hb => by
            rcases hb with hb | hb
            · exact SS.out b hb
            · have := C.out.size; exact .inr (by omega)⟩
          case measure => simp [intOf]; omega
    · obtain rfl : k = lv.length := by omega
      have dkk : decide (lv.length < lv.length) = false := by simp
      have hN := HN.out
      rw [List.take_of_length_le (Nat.le_refl _)] at hN
      have hfin : N = goneI p (mem, lv) := by unfold goneI; dsimp only; rw [hN, ← HN0.out, Hmc.out]
      have X2 : Hid (IxAt wo S2 g room most (mc, lv.map (cutL p)) T r (.slice Av lv.length cv) vs2) := Lib.hid (by have := X.out; rw [List.take_of_length_le (Nat.le_refl _), List.drop_of_length_le (Nat.le_refl _), List.append_nil] at this; exact this)
      have Hfin := Lib.hid hfin
      clear hlt hN hfin
      go_wp2_with fail
      go_ret
      refine ⟨by rw [Hfin.out]; rfl, S2, ⟨T, r, .slice Av lv.length cv, vs2, ?_⟩, C.out, SS.out⟩
      unfold cutI
      dsimp only
      rw [Hmc.out]
      exact X2.out
end Go.Proofs.Ytfjilngofdahgaa
