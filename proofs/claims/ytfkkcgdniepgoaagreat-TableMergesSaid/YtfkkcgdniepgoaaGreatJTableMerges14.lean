/- The statements' book: Apart, of a book that has lists of ints and of entries, walked. -/
import Derived.Test.YtfkkcgdniepgoaaGreatJTableMerges11
import Derived.Test.YtfkkcgdniepgoaaGreatJTableMerges13
import Derived.Test.YtfkkcgdniepgoaaGreatCTableMergesBookNilIE

namespace Go.Proofs.YtfkkcgdniepgoaaGreat
open Go.RowKit
set_option maxHeartbeats 4000000
set_option maxRecDepth 100000
set_option linter.unusedVariables false

theorem put_allI {vs : List Value} {xss yss : List (List Value)} (hp : PutI vs.length xss yss) (hl : vs.length = xss.length) (hf : ∀ xs ∈ xss, xs.length ≤ 1000000) :
    ∀ (j : Nat) (xs : List Value), yss[j]? = some xs → xs = marksOf mkI j 0 xs.length ∧ xs.length ≤ 1000000 := by
  intro j ys hy
  obtain ⟨xs, hx⟩ := get_of_len hp.1 hy
  have hj : j < vs.length := by rw [hl]; exact (List.getElem?_eq_some_iff.1 hx).1
  have h := hp.2 j xs ys hx hy
  refine ⟨by rw [h.1]; exact h.2 hj, by rw [h.1]; exact hf xs (List.mem_of_getElem? hx)⟩
theorem put_allE {vs : List Value} {xss yss : List (List Value)} (hp : PutE vs.length xss yss) (hl : vs.length = xss.length) (hf : ∀ xs ∈ xss, xs.length ≤ 3000000) :
    ∀ (j : Nat) (xs : List Value), yss[j]? = some xs → xs = marksOf mkE j 0 (xs.length / 3) ∧ xs.length ≤ 3000000 := by
  intro j ys hy
  obtain ⟨xs, hx⟩ := get_of_len hp.1 hy
  have hj : j < vs.length := by rw [hl]; exact (List.getElem?_eq_some_iff.1 hx).1
  have h := hp.2 j xs ys hx hy
  refine ⟨by rw [h.1]; exact h.2 hj, by rw [h.1]; exact hf xs (List.mem_of_getElem? hx)⟩

theorem KindI.keepS {w w' : World} {B base : Nat} {S : Nat → Prop} {tv wv : Value} {vs ws : List Value} {xss : List (List Value)} (h : KindI w base tv wv vs ws xss) (hb : BelowS S B w w')
    (hn : ∀ (e : TypeId) (c n b : Nat) (v : Value) (xs : List Value), (e = 48 ∨ e = 3) → w.ownsRow b e c v n xs → ∀ g, v.ownBlock = some g → ¬ S g) : KindI w' base tv wv vs ws xss :=
  ⟨own_keepS h.rt hb (hn _ _ _ _ _ _ (.inl rfl) h.rt), own_keepS h.rw hb (hn _ _ _ _ _ _ (.inl rfl) h.rw), h.ap,
   h.lv.keepS hb (fun i v g hv hg => by obtain ⟨xs, hx⟩ := get_of_len h.lv.len hv; obtain ⟨n, ho⟩ := h.lv.own i v xs hv hx; exact hn _ _ _ _ _ _ (.inr rfl) ho g hg),
   h.lw.keepS hb (fun i v g hv hg => by obtain ⟨xs, hx⟩ := get_of_len h.lw.len hv; obtain ⟨n, ho⟩ := h.lw.own i v xs hv hx; exact hn _ _ _ _ _ _ (.inr rfl) ho g hg), h.form, h.few⟩
theorem KindE.keepS {w w' : World} {B base : Nat} {S : Nat → Prop} {tv wv : Value} {vs ws : List Value} {xss : List (List Value)} (h : KindE w base tv wv vs ws xss) (hb : BelowS S B w w')
    (hn : ∀ (e : TypeId) (c n b : Nat) (v : Value) (xs : List Value), (e = 22 ∨ e = 53) → w.ownsRow b e c v n xs → ∀ g, v.ownBlock = some g → ¬ S g) : KindE w' base tv wv vs ws xss :=
  ⟨own_keepS h.rt hb (hn _ _ _ _ _ _ (.inl rfl) h.rt), own_keepS h.rw hb (hn _ _ _ _ _ _ (.inl rfl) h.rw), h.ap,
   h.lv.keepS hb (fun i v g hv hg => by obtain ⟨xs, hx⟩ := get_of_len h.lv.len hv; obtain ⟨n, ho⟩ := h.lv.own i v xs hv hx; exact hn _ _ _ _ _ _ (.inr rfl) ho g hg),
   h.lw.keepS hb (fun i v g hv hg => by obtain ⟨xs, hx⟩ := get_of_len h.lw.len hv; obtain ⟨n, ho⟩ := h.lw.own i v xs hv hx; exact hn _ _ _ _ _ _ (.inr rfl) ho g hg), h.form, h.few⟩

theorem apartIE_any (g base : Nat) (cs : Array Value) (tI wI tE wE : Value) (vI uI vE uE : List Value) (xI xE : List (List Value)) (w : World)
    (hB : BlkIs w g 40 cs) (h2 : cs[2]? = some tI) (h3 : cs[3]? = some wI) (h6 : cs[6]? = some tE) (h7 : cs[7]? = some wE) (hnil : ∀ i, i = 0 ∨ i = 4 ∨ i = 8 ∨ i = 10 → cs[i]? = some (.slice none 0 0)) (hbs : base ≤ w.heap.size)
    (hKI : KindI w base tI wI vI uI xI) (hKE : KindE w base tE wE vE uE xE) (hlI : vI.length ≤ 250) (hlE : vE.length ≤ 250) :
    Calls Tryz.prog 28 #[.pointer (some ⟨g, 0, none⟩)] w fun e w' => e = .returned (.bool true) ∧ Below base w w' := by
  have hstI := stillInts_any g base cs tI wI vI uI xI w hB h2 h3 hKI hlI
  have hstE := fun k => stillEntries_any g base cs tE wE vE uE xE (w.drewN k) (hB.drewN k) h6 h7 (hKE.drewN k) hlE
  have hnc : ∀ wx, BlkIs wx g 40 cs → wx.cell? ⟨g, 0, none⟩ = some (.slice none 0 0) ∧ wx.cell? ⟨g, 4, none⟩ = some (.slice none 0 0) ∧ wx.cell? ⟨g, 8, none⟩ = some (.slice none 0 0) ∧ wx.cell? ⟨g, 10, none⟩ = some (.slice none 0 0) :=
    fun wx h => ⟨(h.cell 0).trans (hnil 0 (by omega)), (h.cell 4).trans (hnil 4 (by omega)), (h.cell 8).trans (hnil 8 (by omega)), (h.cell 10).trans (hnil 10 (by omega))⟩
  have htc : ∀ wx, BlkIs wx g 40 cs → wx.cell? ⟨g, 2, none⟩ = some tI ∧ wx.cell? ⟨g, 6, none⟩ = some tE := fun wx h => ⟨(h.cell 2).trans h2, (h.cell 6).trans h6⟩
  have HB := Lib.hid hB; have H2 := Lib.hid h2; have H6 := Lib.hid h6; have HKI := Lib.hid hKI; have HKE := Lib.hid hKE; have HstI := Lib.hid hstI; have HstE := Lib.hid hstE; have Hnc := Lib.hid hnc; have Htc := Lib.hid htc
  clear hB h2 h3 h6 h7 hnil hKI hKE hstI hstE hnc htc
  obtain ⟨c0, c4, c8, c10⟩ := Hnc.out w HB.out
  go_enter Tryz.func28, Tryz.ntmps28
  go_wp2_with (go_at_call 52; refine (stillTexts_nil g _ c0).mono ?_; rintro e w9 ⟨rfl, rfl⟩)
  refine HstI.out.mono ?_
  rintro e w1 ⟨rfl, k1, rfl⟩
  clear c0 c4 c8 c10
  have HB1 : Hid (BlkIs (w.drewN k1) g 40 cs) := Lib.hid (HB.out.drewN k1)
  obtain ⟨W1, hW1⟩ : ∃ W1, w.drewN k1 = W1 := ⟨_, rfl⟩
  have HK1 := Lib.hid (HKI.out.drewN k1)
  have HE1 := Lib.hid (HKE.out.drewN k1)
  have Hst1 := Lib.hid (HstE.out k1)
  have hbs1 : base ≤ (w.drewN k1).heap.size := hbs
  have Hb1 : Hid (Below base w (w.drewN k1)) := Lib.hid (below_drewN (Below.refl _ _) k1)
  rw [hW1] at HB1 HK1 HE1 Hst1 hbs1 Hb1 ⊢
  clear hW1 HstI HstE
  obtain ⟨c0, c4, c8, c10⟩ := Hnc.out W1 HB1.out
  go_wp2_with (go_at_call 54; refine (stillStored_nil g _ c4).mono ?_; rintro e w9 ⟨rfl, rfl⟩)
  refine Hst1.out.mono ?_
  rintro e w2 ⟨rfl, k2, rfl⟩
  clear c0 c4 c8 c10 Hst1
  have HB2 : Hid (BlkIs (W1.drewN k2) g 40 cs) := Lib.hid (HB1.out.drewN k2)
  obtain ⟨W2, hW2⟩ : ∃ W2, W1.drewN k2 = W2 := ⟨_, rfl⟩
  have HK2 := Lib.hid (HK1.out.drewN k2)
  have HE2 := Lib.hid (HE1.out.drewN k2)
  have hbs2 : base ≤ (W1.drewN k2).heap.size := hbs1
  have Hb2 : Hid (Below base w (W1.drewN k2)) := Lib.hid (below_drewN Hb1.out k2)
  rw [hW2] at HB2 HK2 HE2 hbs2 Hb2 ⊢
  clear hW2 HK1 HE1 HB1 Hb1 hbs1
  obtain ⟨c0, c4, c8, c10⟩ := Hnc.out W2 HB2.out
  go_wp2_with (first
    | (go_at_call 56; refine (stillPackets_nil g _ c8).mono ?_; rintro e w9 ⟨rfl, rfl⟩)
    | (go_at_call 57; refine (stillSteps_nil g _ c10).mono ?_; rintro e w9 ⟨rfl, rfl⟩)
    | (go_at_call 58; refine (putSteps_nil g _ c10).mono ?_; rintro e w9 ⟨rfl, rfl⟩)
    | (go_at_call 59; refine (putTexts_nil g _ c0).mono ?_; rintro e w9 ⟨rfl, rfl⟩))
  refine (putInts_any g base cs tI vI xI _ HB2.out H2.out hbs2 HK2.out.rt HK2.out.lv HK2.out.few hlI).mono ?_
  rintro e w3 ⟨rfl, hB3, hrI3, ⟨yI, hLI3, hputI⟩, hb3⟩
  have hmkI := put_allI hputI HK2.out.lv.len HK2.out.few
  have hrE3 := own_keepS HE2.out.rt hb3 (own_not HE2.out.rt HK2.out.lv (by decide))
  have hLE3 := HE2.out.lv.keepS hb3 (lists_not HE2.out.lv HK2.out.lv (by decide))
  have hbs3 : base ≤ w3.heap.size := Nat.le_trans hbs2 hb3.size
  have HB3 := Lib.hid hB3; have HrI3 := Lib.hid hrI3; have HLI3 := Lib.hid hLI3; have HmkI := Lib.hid hmkI; have HrE3 := Lib.hid hrE3; have HLE3 := Lib.hid hLE3; have Hb3 := Lib.hid (Hb2.out.trans hb3.below)
  clear hB3 hrI3 hLI3 hputI hmkI hrE3 hLE3 hb3 c0 c4 c8 c10
  obtain ⟨c0, c4, c8, c10⟩ := Hnc.out w3 HB3.out
  go_wp2_with (go_at_call 61; refine (putStored_nil g _ c4).mono ?_; rintro e w9 ⟨rfl, rfl⟩)
  refine (putEntries_any g base cs tE vE xE _ HB3.out H6.out hbs3 HrE3.out HLE3.out HE2.out.few hlE).mono ?_
  rintro e w4 ⟨rfl, hB4, hrE4, ⟨yE, hLE4, hputE⟩, hb4⟩
  have hmkE := put_allE hputE HLE3.out.len HE2.out.few
  have hrI4 := own_keepS HrI3.out hb4 (own_not HrI3.out HLE3.out (by decide))
  have hLI4 := HLI3.out.keepS hb4 (lists_not HLI3.out HLE3.out (by decide))
  have hbs4 : base ≤ w4.heap.size := Nat.le_trans hbs3 hb4.size
  have HB4 := Lib.hid hB4; have HrI4 := Lib.hid hrI4; have HLI4 := Lib.hid hLI4; have HmkE := Lib.hid hmkE; have HrE4 := Lib.hid hrE4; have HLE4 := Lib.hid hLE4; have Hb4 := Lib.hid (Hb3.out.trans hb4.below)
  clear hB4 hrE4 hLE4 hputE hmkE hrI4 hLI4 hb4 c0 c4 c8 c10 HB3 HrI3 HLI3 HrE3 HLE3 Hb3 HB2 HK2 HE2 Hb2
  obtain ⟨c0, c4, c8, c10⟩ := Hnc.out w4 HB4.out
  go_wp2_with (first
    | (go_at_call 63; refine (putPackets_nil g _ c8).mono ?_; rintro e w9 ⟨rfl, rfl⟩)
    | (go_at_call 64; refine (growTexts_nil g _ c0).mono ?_; rintro e w9 ⟨rfl, rfl⟩))
  refine (growInts_any g base cs tI vI yI _ HB4.out H2.out hbs4 HrI4.out HLI4.out HmkI.out hlI).mono ?_
  rintro e w5 ⟨oI, usI, gsI, rfl, hB5, hrI5, hoI5, hLI5, hgI5, hvI5, hb5⟩
  have hrE5 := own_keepS HrE4.out hb5 (own_not HrE4.out HLI4.out (by decide))
  have hLE5 := HLE4.out.keepS hb5 (lists_not HLE4.out HLI4.out (by decide))
  have hnIE := lists_not HLI4.out HLE4.out (by decide)
  have hbs5 : base ≤ w5.heap.size := Nat.le_trans hbs4 hb5.size
  have HB5 := Lib.hid hB5; have HrI5 := Lib.hid hrI5; have HoI5 := Lib.hid hoI5; have HLI5 := Lib.hid hLI5; have HgI5 := Lib.hid hgI5; have HvI5 := Lib.hid hvI5; have HrE5 := Lib.hid hrE5; have HLE5 := Lib.hid hLE5; have HnIE := Lib.hid hnIE; have Hb5 := Lib.hid (Hb4.out.trans hb5.below)
  have HlenI := Lib.hid HLI4.out.len
  clear hB5 hrI5 hoI5 hLI5 hgI5 hvI5 hrE5 hLE5 hnIE hb5 c0 c4 c8 c10 HB4 HrI4 HLI4 HrE4 HLE4 Hb4
  obtain ⟨c0, c4, c8, c10⟩ := Hnc.out w5 HB5.out
  go_wp2_with (go_at_call 66; refine (growStored_nil g _ c4).mono ?_; rintro e w9 ⟨rfl, rfl⟩)
  refine (growEntries_any g base cs tE vE yE _ HB5.out H6.out hbs5 HrE5.out HLE5.out HmkE.out hlE).mono ?_
  rintro e w6 ⟨oE, usE, gsE, rfl, hB6, hrE6, hoE6, hLE6, hgE6, hvE6, hb6⟩
  have hrI6 := own_keepS HrI5.out hb6 (own_not HrI5.out HLE5.out (by decide))
  have hoI6 := own_keepS HoI5.out hb6 (own_not HoI5.out HLE5.out (by decide))
  have hLI6 := HLI5.out.keepS hb6 (lists_not HLI5.out HLE5.out (by decide))
  have hvI6 := HvI5.out.keepS hb6 HnIE.out
  have hbs6 : base ≤ w6.heap.size := Nat.le_trans hbs5 hb6.size
  have hsI1 : ∀ (k : Nat) (v : Value), usI[k]? = some v → ∃ n, n ≤ 2000000 ∧ Shows w6 1 v (marksOf mkI k 0 n) := fun k v hv => by
    obtain ⟨gs, hgs⟩ := get_of_len hLI6.len hv
    obtain ⟨xs, hxs⟩ := get_of_len HgI5.out.1 hgs
    have hm := HmkI.out k xs hxs
    have hk : k < vI.length := by rw [HlenI.out]; exact (List.getElem?_eq_some_iff.1 hxs).1
    have := (HgI5.out.2 k xs gs hxs hgs).1 hk
    subst this
    exact ⟨xs.length + 72, by omega, hLI6.shows hv hgs⟩
  have hsI2 : ∀ (k : Nat) (v : Value), vI[k]? = some v → ∃ n, n ≤ 2000000 ∧ Shows w6 1 v (marksOf mkI k 0 n) := fun k v hv => by
    obtain ⟨xs, hxs⟩ := get_of_len HlenI.out hv
    have hm := HmkI.out k xs hxs
    have := hvI6.shows hv hxs
    rw [hm.1] at this
    exact ⟨xs.length, by omega, this⟩
  have hsE1 : ∀ (k : Nat) (v : Value), usE[k]? = some v → ∃ n, n ≤ 2000000 ∧ Shows w6 3 v (marksOf mkE k 0 n) := fun k v hv => by
    obtain ⟨gs, hgs⟩ := get_of_len hLE6.len hv
    obtain ⟨xs, hxs⟩ := get_of_len hgE6.1 hgs
    have hm := HmkE.out k xs hxs
    have hk : k < vE.length := by rw [HLE5.out.len]; exact (List.getElem?_eq_some_iff.1 hxs).1
    have := (hgE6.2 k xs gs hxs hgs).1 hk
    subst this
    exact ⟨xs.length / 3 + 72, by omega, hLE6.shows hv hgs⟩
  have hsE2 : ∀ (k : Nat) (v : Value), vE[k]? = some v → ∃ n, n ≤ 2000000 ∧ Shows w6 3 v (marksOf mkE k 0 n) := fun k v hv => by
    obtain ⟨xs, hxs⟩ := get_of_len HLE5.out.len hv
    have hm := HmkE.out k xs hxs
    have := hvE6.shows hv hxs
    rw [hm.1] at this
    exact ⟨xs.length / 3, by omega, this⟩
  obtain ⟨AoI, coI, rfl, _⟩ := own_slice hoI6
  obtain ⟨AtI, ctI, rfl, _⟩ := own_slice hrI6
  obtain ⟨AoE, coE, rfl, _⟩ := own_slice hoE6
  obtain ⟨AtE, ctE, rfl, _⟩ := own_slice hrE6
  have hlI9 : vI.length ≤ 1000 := by omega
  have hlE9 : vE.length ≤ 1000 := by omega
  have hF : ∀ wx, Below w6.heap.size w6 wx → BlkIs wx g 40 cs ∧ (SlR wx wx.heap.size 1 AoI vI.length usI ∧ SlR wx wx.heap.size 1 AtI vI.length vI ∧ SlR wx wx.heap.size 1 AoE vE.length usE ∧ SlR wx wx.heap.size 1 AtE vE.length vE) ∧
      (∀ (k : Nat) (v : Value), usI[k]? = some v → ∃ n, n ≤ 2000000 ∧ Shows wx 1 v (marksOf mkI k 0 n)) ∧ (∀ (k : Nat) (v : Value), vI[k]? = some v → ∃ n, n ≤ 2000000 ∧ Shows wx 1 v (marksOf mkI k 0 n)) ∧ (∀ (k : Nat) (v : Value), usE[k]? = some v → ∃ n, n ≤ 2000000 ∧ Shows wx 3 v (marksOf mkE k 0 n)) ∧ (∀ (k : Nat) (v : Value), vE[k]? = some v → ∃ n, n ≤ 2000000 ∧ Shows wx 3 v (marksOf mkE k 0 n)) := fun wx hx =>
    ⟨hB6.below hx hB6.lt, ⟨((SlR.own hoI6).below hx).more hx.size, ((SlR.own hrI6).below hx).more hx.size, ((SlR.own hoE6).below hx).more hx.size, ((SlR.own hrE6).below hx).more hx.size⟩,
      fun k v hv => by obtain ⟨n, hn, hs⟩ := hsI1 k v hv; exact ⟨n, hn, hs.below hx⟩, fun k v hv => by obtain ⟨n, hn, hs⟩ := hsI2 k v hv; exact ⟨n, hn, hs.below hx⟩, fun k v hv => by obtain ⟨n, hn, hs⟩ := hsE1 k v hv; exact ⟨n, hn, hs.below hx⟩, fun k v hv => by obtain ⟨n, hn, hs⟩ := hsE2 k v hv; exact ⟨n, hn, hs.below hx⟩⟩
  have HF := Lib.hid hF; have Hb6 := Lib.hid (Hb5.out.trans hb6.below)
  have HB6 := Lib.hid hB6
  have hmkIs := fun wx (hx : Below w6.heap.size w6 wx) => And.intro (markedInts_any AoI vI.length coI usI wx (hF wx hx).2.1.1 (hF wx hx).2.2.1 hlI9) (markedInts_any AtI vI.length ctI vI wx (hF wx hx).2.1.2.1 (hF wx hx).2.2.2.1 hlI9)
  have hmkEs := fun wx (hx : Below w6.heap.size w6 wx) => And.intro (markedEntries_any AoE vE.length coE usE wx (hF wx hx).2.1.2.2.1 (hF wx hx).2.2.2.2.1 hlE9) (markedEntries_any AtE vE.length ctE vE wx (hF wx hx).2.1.2.2.2 (hF wx hx).2.2.2.2.2 hlE9)
  have HmI := Lib.hid hmkIs; have HmE := Lib.hid hmkEs
  have hr6 := Below.refl w6.heap.size w6
  clear hB6 hrE6 hoE6 hLE6 hgE6 hvE6 hb6 hrI6 hoI6 hLI6 hvI6 hsI1 hsI2 hsE1 hsE2 hF hmkIs hmkEs c0 c4 c8 c10 HB5 HrI5 HoI5 HLI5 HgI5 HvI5 HrE5 HLE5 HnIE Hb5 HlenI HmkI HmkE
  obtain ⟨c0, c4, c8, c10⟩ := Hnc.out w6 HB6.out
  obtain ⟨c2, c6⟩ := Htc.out w6 HB6.out
  go_wp2_with (first
    | (go_at_call 68; refine (growPackets_nil g _ c8).mono ?_; rintro e w9 ⟨rfl, rfl⟩)
    | (go_at_call 69; refine (growSteps_nil g _ c10).mono ?_; rintro e w9 ⟨rfl, rfl⟩)
    | (go_at_call 70; refine (markedTexts_nil _).mono ?_; rintro e w9 ⟨rfl, rfl⟩))
  have Hr6 := Lib.hid hr6
  refine ((HmI.out w6 Hr6.out).1).mono ?_
  rintro e w7 ⟨rfl, hb7⟩
  have Hr7 := Lib.hid (Hr6.out.trans (hb7.mono Hr6.out.size))
  clear hb7 c0 c4 c8 c10 c2 c6
  obtain ⟨c0, c4, c8, c10⟩ := Hnc.out w7 (HF.out w7 Hr7.out).1
  obtain ⟨c2, c6⟩ := Htc.out w7 (HF.out w7 Hr7.out).1
  go_wp2_with (first
    | (go_at_call 72; refine (markedStored_nil _).mono ?_; rintro e w9 ⟨rfl, rfl⟩)
    | (go_at_call 74; refine (markedPackets_nil _).mono ?_; rintro e w9 ⟨rfl, rfl⟩)
    | (go_at_call 75; refine (markedSteps_nil _).mono ?_; rintro e w9 ⟨rfl, rfl⟩))
  refine ((HmI.out w7 Hr7.out).2).mono ?_
  rintro e w8 ⟨rfl, hb8⟩
  have Hr8 := Lib.hid (Hr7.out.trans (hb8.mono Hr7.out.size))
  clear hb8 c0 c4 c8 c10 c2 c6
  obtain ⟨c0, c4, c8, c10⟩ := Hnc.out w8 (HF.out w8 Hr8.out).1
  obtain ⟨c2, c6⟩ := Htc.out w8 (HF.out w8 Hr8.out).1
  go_wp2_with (first
    | (go_at_call 72; refine (markedStored_nil _).mono ?_; rintro e w9 ⟨rfl, rfl⟩)
    | (go_at_call 74; refine (markedPackets_nil _).mono ?_; rintro e w9 ⟨rfl, rfl⟩)
    | (go_at_call 75; refine (markedSteps_nil _).mono ?_; rintro e w9 ⟨rfl, rfl⟩))
  refine ((HmE.out w8 Hr8.out).1).mono ?_
  rintro e w10 ⟨rfl, hb9⟩
  have Hr9 := Lib.hid (Hr8.out.trans (hb9.mono Hr8.out.size))
  clear hb9 c0 c4 c8 c10 c2 c6
  obtain ⟨c0, c4, c8, c10⟩ := Hnc.out w10 (HF.out w10 Hr9.out).1
  obtain ⟨c2, c6⟩ := Htc.out w10 (HF.out w10 Hr9.out).1
  go_wp2_with (first
    | (go_at_call 72; refine (markedStored_nil _).mono ?_; rintro e w9 ⟨rfl, rfl⟩)
    | (go_at_call 74; refine (markedPackets_nil _).mono ?_; rintro e w9 ⟨rfl, rfl⟩)
    | (go_at_call 75; refine (markedSteps_nil _).mono ?_; rintro e w9 ⟨rfl, rfl⟩))
  refine ((HmE.out w10 Hr9.out).2).mono ?_
  rintro e w11 ⟨rfl, hb10⟩
  have Hr10 := Lib.hid (Hr9.out.trans (hb10.mono Hr9.out.size))
  clear hb10 c0 c4 c8 c10 c2 c6
  obtain ⟨c0, c4, c8, c10⟩ := Hnc.out w11 (HF.out w11 Hr10.out).1
  obtain ⟨c2, c6⟩ := Htc.out w11 (HF.out w11 Hr10.out).1
  go_wp2_with (first
    | (go_at_call 72; refine (markedStored_nil _).mono ?_; rintro e w9 ⟨rfl, rfl⟩)
    | (go_at_call 74; refine (markedPackets_nil _).mono ?_; rintro e w9 ⟨rfl, rfl⟩)
    | (go_at_call 75; refine (markedSteps_nil _).mono ?_; rintro e w9 ⟨rfl, rfl⟩))
  go_ret
  exact ⟨rfl, Hb6.out.trans (Hr10.out.mono hbs6)⟩
end Go.Proofs.YtfkkcgdniepgoaaGreat

/- A book that has lists of ints and of entries: it takes one more of either kind, and tells which are apart. -/
namespace Go.Proofs.YtfkkcgdniepgoaaGreat
open Go.RowKit
set_option maxHeartbeats 1000000
set_option maxRecDepth 100000
set_option linter.unusedVariables false

def bookIE (tI wI tE wE : Value) : Array Value := #[.slice none 0 0, .slice none 0 0, tI, wI, .slice none 0 0, .slice none 0 0, tE, wE, .slice none 0 0, .slice none 0 0, .slice none 0 0, .slice none 0 0]
theorem bookIE_setI (tI wI tE wE tI' wI' : Value) : ((bookIE tI wI tE wE).setIfInBounds 2 tI').setIfInBounds 3 wI' = bookIE tI' wI' tE wE := rfl
theorem bookIE_setE (tI wI tE wE tE' wE' : Value) : ((bookIE tI wI tE wE).setIfInBounds 6 tE').setIfInBounds 7 wE' = bookIE tI wI tE' wE' := rfl

/-- the book at block g: no more than nI lists of ints, nE of entries, all in blocks ahead of H -/
structure BookAt (w0 w : World) (B0 g base nI nE H : Nat) (R : Nat → Prop) : Prop where
  ex : ∃ (tI wI tE wE : Value) (vI uI vE uE : List Value) (xI xE : List (List Value)), BlkIs w g 40 (bookIE tI wI tE wE) ∧ KindI w base tI wI vI uI xI ∧ KindE w base tE wE vE uE xE ∧ vI.length ≤ nI ∧ vE.length ≤ nE ∧
    (∀ (i : Nat) (u : Value) (b : Nat), vI[i]? = some u → u.ownBlock = some b → b < H) ∧ (∀ (i : Nat) (u : Value) (b : Nat), vE[i]? = some u → u.ownBlock = some b → b < H) ∧ (∀ (i : Nat) (u : Value) (b : Nat), vE[i]? = some u ∨ uE[i]? = some u → u.ownBlock = some b → ¬ R b)
  bel : Below B0 w0 w
  lo : B0 ≤ g
  gb : g < base
  size : base ≤ w.heap.size
theorem BookAt.lt {w0 w : World} {B0 g base nI nE H : Nat} {R : Nat → Prop} (h : BookAt w0 w B0 g base nI nE H R) : g < w.heap.size := Nat.lt_of_lt_of_le h.gb h.size
theorem BookAt.under {w0 w w' : World} {B0 g base nI nE H : Nat} {R : Nat → Prop} (h : BookAt w0 w B0 g base nI nE H R) (hb : Below w.heap.size w w') : BookAt w0 w' B0 g base nI nE H R := by
  obtain ⟨tI, wI, tE, wE, vI, uI, vE, uE, xI, xE, h1, h2, h3, h4, h5, h6, h7, h8⟩ := h.ex
  exact ⟨⟨tI, wI, tE, wE, vI, uI, vE, uE, xI, xE, h1.below hb h1.lt, h2.below hb (Nat.le_refl _), h3.below hb (Nat.le_refl _), h4, h5, h6, h7, h8⟩, h.bel.trans (hb.mono (Nat.le_trans h.lo (Nat.le_of_lt h.lt))), h.lo, h.gb, Nat.le_trans h.size hb.size⟩
theorem BookAt.far {w0 w : World} {B0 g base nI nE H H' : Nat} {R : Nat → Prop} (h : BookAt w0 w B0 g base nI nE H R) (hH : H ≤ H') : BookAt w0 w B0 g base nI nE H' R := by
  obtain ⟨tI, wI, tE, wE, vI, uI, vE, uE, xI, xE, h1, h2, h3, h4, h5, h6, h7, h8⟩ := h.ex
  exact ⟨⟨tI, wI, tE, wE, vI, uI, vE, uE, xI, xE, h1, h2, h3, h4, h5, fun i u b hu hb => Nat.lt_of_lt_of_le (h6 i u b hu hb) hH, fun i u b hu hb => Nat.lt_of_lt_of_le (h7 i u b hu hb) hH, h8⟩, h.bel, h.lo, h.gb, h.size⟩
theorem BookAt.more {w0 w : World} {B0 g base nI nE nI' nE' H : Nat} {R : Nat → Prop} (h : BookAt w0 w B0 g base nI nE H R) (h1 : nI ≤ nI') (h2 : nE ≤ nE') : BookAt w0 w B0 g base nI' nE' H R := by
  obtain ⟨tI, wI, tE, wE, vI, uI, vE, uE, xI, xE, k1, k2, k3, k4, k5, k6, k7, k8⟩ := h.ex
  exact ⟨⟨tI, wI, tE, wE, vI, uI, vE, uE, xI, xE, k1, k2, k3, Nat.le_trans k4 h1, Nat.le_trans k5 h2, k6, k7, k8⟩, h.bel, h.lo, h.gb, h.size⟩
theorem BookAt.new {w0 w : World} {B0 : Nat} (hb : Below B0 w0 w) (hB : B0 ≤ w.heap.size) (H : Nat) (R : Nat → Prop) : BookAt w0 (w.alloc (.cells (bookIE (.slice none 0 0) (.slice none 0 0) (.slice none 0 0) (.slice none 0 0)) 40)) B0 w.heap.size (w.heap.size + 1) 0 0 H R :=
  ⟨⟨_, _, _, _, [], [], [], [], [], [], BlkIs.new _ _ _, KindI.nil _ _, KindE.nil _ _, Nat.le_refl _, Nat.le_refl _, fun i u b h => by simp at h, fun i u b h => by simp at h, fun i u b h => by simp at h⟩, hb.alloc hB _, hB, Nat.lt_succ_self _, by simp⟩

/-- what a book does not touch when it takes a list -/
structure Spares (w w' : World) (g : Nat) (t : TypeId) : Prop where
  own : ∀ (e : TypeId) (c n b : Nat) (v : Value) (xs : List Value), e ≠ t → e ≠ 40 → w.ownsRow b e c v n xs → w'.ownsRow b e c v n xs
  blk : ∀ (e : TypeId) (q : Nat) (cs : Array Value), e ≠ t → e ≠ 40 → BlkIs w q e cs → BlkIs w' q e cs
  bel : Below g w w'
theorem spares_of {w w' : World} {g base b1 b2 c1 c2 n1 n2 : Nat} {t : TypeId} {cs : Array Value} {tv wv : Value} {x1 x2 : List Value} (hB : BlkIs w g 40 cs) (h1 : w.ownsRow b1 t c1 tv n1 x1) (h2 : w.ownsRow b2 t c2 wv n2 x2) (hbut : BelowBut base g w w') (hgb : g < base)
    (hk : ∀ b, b < w.heap.size → b ≠ g → tv.ownBlock ≠ some b → wv.ownBlock ≠ some b → w'.heap[b]? = w.heap[b]?) : Spares w w' g t := by
  have hbs : BelowS (fun b => b = g ∨ tv.ownBlock = some b ∨ wv.ownBlock = some b) g w w' := ⟨hbut.below (Nat.le_of_lt hgb) (Nat.le_refl _), fun b hb hn => hk b hb (fun e => hn (.inl e)) (fun e => hn (.inr (.inl e))) (fun e => hn (.inr (.inr e)))⟩
  refine ⟨fun e c n b v xs he hbk ho => own_keepS ho hbs (fun q hq hS => ?_), fun e q ds he hbk hq => blk_keepS hq hbs (fun hS => ?_), hbs.below⟩
  · rcases hS with h | h | h
    · subst h; exact own_ne_blk ho hB hbk hq
    · exact rows_apart ho h1 he q hq h
    · exact rows_apart ho h2 he q hq h
  · rcases hS with h | h | h
    · subst h
      have := hq.symm.trans hB
      injection this with this
      injection this with _ ht
      exact hbk ht
    · exact own_ne_blk h1 hq (fun h => he h.symm) h
    · exact own_ne_blk h2 hq (fun h => he h.symm) h

theorem bookE_add (w0 w : World) (B0 g base nI nE H H' n : Nat) (R : Nat → Prop) (v : Value) (ss : List En) (h : BookAt w0 w B0 g base nI nE H R) (hR : ∀ b, R b → b < H) (hv : w.ownsRow H 53 3 v n (enVs ss)) (hv2 : ∀ b, v.ownBlock = some b → b < H') (hv3 : H ≤ w.heap.size) (hn : n ≤ 1000000) (hnE : nE ≤ 200) (hbH : base ≤ H) (hHH : H ≤ H') :
    Calls Tryz.prog 17 #[.pointer (some ⟨g, 0, none⟩), v] w fun e w' => e = .returned (.tuple #[]) ∧ BookAt w0 w' B0 g base nI (nE + 1) H' R ∧ Spares w w' g 22 := by
  obtain ⟨tI, wI, tE, wE, vI, uI, vE, uE, xI, xE, h1, h2, h3, h4, h5, h6, h7, h8⟩ := h.ex
  refine (bookEntries_any g base n (bookIE tI wI tE wE) tE wE v vE uE xE (enVs ss) w h1 rfl rfl h.size h3 (own_base hv hbH) (fun i u b hu hb hb2 => by
    have := (hv.lt b hb).1
    have := h7 i u b hu hb2
    omega) (by omega) ⟨ss, rfl⟩ hn).mono ?_
  rintro e w' ⟨tv', wv', v2, rfl, k1, k2, k3, k4, k5⟩
  rw [bookIE_setE] at k1
  have hsp := spares_of h1 h3.rt h3.rw k3 h.gb k4
  have hbs : BelowS (fun b => b = g ∨ tE.ownBlock = some b ∨ wE.ownBlock = some b) g w w' := ⟨hsp.bel, fun b hb hn => k4 b hb (fun e => hn (.inl e)) (fun e => hn (.inr (.inl e))) (fun e => hn (.inr (.inr e)))⟩
  refine ⟨rfl, ⟨⟨tI, wI, tv', wv', vI, uI, vE ++ [v], uE ++ [v2], xI, xE ++ [enVs ss], k1, h2.keepS hbs (fun e c n b v xs he ho q hq hS => ?_), k2, h4, by rw [List.length_append]; simp; omega, fun i u b hu hb => Nat.lt_of_lt_of_le (h6 i u b hu hb) hHH, fun i u b hu hb => ?_, fun i u b hu hb => ?_⟩, h.bel.trans (hsp.bel.mono h.lo), h.lo, h.gb, Nat.le_trans h.size k3.size⟩, hsp⟩
  · rcases hS with h | h | h
    · subst h; exact own_ne_blk ho h1 (by rcases he with rfl | rfl <;> decide) hq
    · exact rows_apart ho h3.rt (by rcases he with rfl | rfl <;> decide) q hq h
    · exact rows_apart ho h3.rw (by rcases he with rfl | rfl <;> decide) q hq h
  · by_cases hi : i < vE.length
    · rw [List.getElem?_append_left hi] at hu
      exact Nat.lt_of_lt_of_le (h7 i u b hu hb) hHH
    · rw [List.getElem?_append_right (by omega)] at hu
      obtain ⟨hl, he⟩ := List.getElem?_eq_some_iff.1 hu
      simp at hl
      have : u = v := by rw [← he]; simp
      subst this
      exact hv2 b hb
  · have hone : ∀ (l : List Value) (x : Value), (l ++ [x])[i]? = some u → l[i]? = some u ∨ u = x := fun l x h => by
      by_cases hi : i < l.length
      · rw [List.getElem?_append_left hi] at h; exact .inl h
      · rw [List.getElem?_append_right (by omega)] at h
        obtain ⟨hl, he⟩ := List.getElem?_eq_some_iff.1 h
        simp at hl
        exact .inr (by rw [← he]; simp)
    rcases hu with hu | hu
    · rcases hone _ _ hu with h9 | h9
      · exact h8 i u b (.inl h9) hb
      · subst h9
        exact fun hr => by have := hR b hr; have := (hv.lt b hb).1; omega
    · rcases hone _ _ hu with h9 | h9
      · exact h8 i u b (.inr h9) hb
      · subst h9
        exact fun hr => by
          have h10 := k5 b hb
          have h11 := hR b hr
          have h12 := hv3
          omega

theorem bookI_add (w0 w : World) (B0 g base nI nE H H' n : Nat) (R : Nat → Prop) (v : Value) (ss : List Int) (h : BookAt w0 w B0 g base nI nE H R) (hv : w.ownsRow H 3 1 v n (intVs ss)) (hv2 : ∀ b, v.ownBlock = some b → b < H') (hn : n ≤ 1000000) (hnI : nI ≤ 200) (hbH : base ≤ H) (hHH : H ≤ H') :
    Calls Tryz.prog 18 #[.pointer (some ⟨g, 0, none⟩), v] w fun e w' => e = .returned (.tuple #[]) ∧ BookAt w0 w' B0 g base (nI + 1) nE H' R ∧ Spares w w' g 48 := by
  obtain ⟨tI, wI, tE, wE, vI, uI, vE, uE, xI, xE, h1, h2, h3, h4, h5, h6, h7, h8⟩ := h.ex
  refine (bookInts_any g base n (bookIE tI wI tE wE) tI wI v vI uI xI (intVs ss) w h1 rfl rfl h.size h2 (own_base hv hbH) (fun i u b hu hb hb2 => by
    have := (hv.lt b hb).1
    have := h6 i u b hu hb2
    omega) (by omega) ⟨ss, rfl⟩ hn).mono ?_
  rintro e w' ⟨tv', wv', v2, rfl, k1, k2, k3, k4, k5⟩
  rw [bookIE_setI] at k1
  have hsp := spares_of h1 h2.rt h2.rw k3 h.gb k4
  have hbs : BelowS (fun b => b = g ∨ tI.ownBlock = some b ∨ wI.ownBlock = some b) g w w' := ⟨hsp.bel, fun b hb hn => k4 b hb (fun e => hn (.inl e)) (fun e => hn (.inr (.inl e))) (fun e => hn (.inr (.inr e)))⟩
  refine ⟨rfl, ⟨⟨tv', wv', tE, wE, vI ++ [v], uI ++ [v2], vE, uE, xI ++ [intVs ss], xE, k1, k2, h3.keepS hbs (fun e c n b v xs he ho q hq hS => ?_), by rw [List.length_append]; simp; omega, h5, fun i u b hu hb => ?_, fun i u b hu hb => Nat.lt_of_lt_of_le (h7 i u b hu hb) hHH, h8⟩, h.bel.trans (hsp.bel.mono h.lo), h.lo, h.gb, Nat.le_trans h.size k3.size⟩, hsp⟩
  · rcases hS with h | h | h
    · subst h; exact own_ne_blk ho h1 (by rcases he with rfl | rfl <;> decide) hq
    · exact rows_apart ho h2.rt (by rcases he with rfl | rfl <;> decide) q hq h
    · exact rows_apart ho h2.rw (by rcases he with rfl | rfl <;> decide) q hq h
  · by_cases hi : i < vI.length
    · rw [List.getElem?_append_left hi] at hu
      exact Nat.lt_of_lt_of_le (h6 i u b hu hb) hHH
    · rw [List.getElem?_append_right (by omega)] at hu
      obtain ⟨hl, he⟩ := List.getElem?_eq_some_iff.1 hu
      simp at hl
      have : u = v := by rw [← he]; simp
      subst this
      exact hv2 b hb

theorem bookIE_apart (w0 w : World) (B0 g base nI nE H : Nat) (R : Nat → Prop) (h : BookAt w0 w B0 g base nI nE H R) (hI : nI ≤ 250) (hE : nE ≤ 250) :
    Calls Tryz.prog 28 #[.pointer (some ⟨g, 0, none⟩)] w fun e w' => e = .returned (.bool true) ∧ Below B0 w0 w' := by
  obtain ⟨tI, wI, tE, wE, vI, uI, vE, uE, xI, xE, h1, h2, h3, h4, h5, h6, h7, h8⟩ := h.ex
  refine (apartIE_any g base (bookIE tI wI tE wE) tI wI tE wE vI uI vE uE xI xE w h1 rfl rfl rfl rfl (fun i hi => by rcases hi with rfl | rfl | rfl | rfl <;> rfl) h.size h2 h3 (by omega) (by omega)).mono ?_
  rintro e w' ⟨rfl, hb⟩
  exact ⟨rfl, h.bel.trans (hb.mono (Nat.le_trans h.lo (Nat.le_of_lt h.gb)))⟩
end Go.Proofs.YtfkkcgdniepgoaaGreat

/- A book that takes one list of entries, which may lie ahead of it. -/
namespace Go.Proofs.YtfkkcgdniepgoaaGreat
open Go.RowKit
set_option maxHeartbeats 1000000
set_option maxRecDepth 100000
set_option linter.unusedVariables false

theorem bookOne_any (g base n : Nat) (v : Value) (ss : List En) (w : World) (hB : BlkIs w g 40 (bookIE (.slice none 0 0) (.slice none 0 0) (.slice none 0 0) (.slice none 0 0))) (hbs : base ≤ w.heap.size) (hbg : base ≤ g)
    (hv : w.ownsRow base 53 3 v n (enVs ss)) (hn : n ≤ 1000000) :
    Calls Tryz.prog 17 #[.pointer (some ⟨g, 0, none⟩), v] w fun e w' => e = .returned (.tuple #[]) ∧ Below g w w' ∧ w.heap.size ≤ w'.heap.size ∧ (∀ b, b < w.heap.size → b ≠ g → w'.heap[b]? = w.heap[b]?) ∧ (∃ m, w'.ownsRow base 53 3 v m (enVs ss)) ∧
      ∀ wx, Below w'.heap.size w' wx → Calls Tryz.prog 28 #[.pointer (some ⟨g, 0, none⟩)] wx fun e w2 => e = .returned (.bool true) ∧ Below base wx w2 := by
  refine (bookEntries_any g base n (bookIE (.slice none 0 0) (.slice none 0 0) (.slice none 0 0) (.slice none 0 0)) (.slice none 0 0) (.slice none 0 0) v [] [] [] (enVs ss) w hB rfl rfl hbs (KindE.nil _ _) hv (fun i u b h => by simp at h) (by simp) ⟨ss, rfl⟩ hn).mono ?_
  rintro e w' ⟨tv', wv', v2, rfl, k1, k2, k3, k4, k5⟩
  rw [bookIE_setE] at k1
  have k4' : ∀ b, b < w.heap.size → b ≠ g → w'.heap[b]? = w.heap[b]? := fun b h1 h2 => k4 b h1 h2 (by simp [Value.ownBlock]) (by simp [Value.ownBlock])
  refine ⟨rfl, ⟨k3.os, k3.tape, k3.output, k3.size, fun b hb => k4' b (Nat.lt_of_lt_of_le hb (Nat.le_of_lt hB.lt)) (by omega)⟩, k3.size, k4', k2.lv.own 0 v _ rfl rfl, fun wx hx => ?_⟩
  exact apartIE_any g base _ _ _ tv' wv' [] [] ([] ++ [v]) ([] ++ [v2]) [] ([] ++ [enVs ss]) wx (k1.below hx k1.lt) rfl rfl rfl rfl (fun i hi => by rcases hi with rfl | rfl | rfl | rfl <;> rfl) (Nat.le_trans (Nat.le_trans hbs k3.size) hx.size) (KindI.nil _ _) (k2.below hx (Nat.le_refl _)) (by simp) (by simp)
end Go.Proofs.YtfkkcgdniepgoaaGreat
