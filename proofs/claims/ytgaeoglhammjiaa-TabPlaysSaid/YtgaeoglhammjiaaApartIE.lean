/- The statements' book: Apart, of a book that has lists of ints and of entries, walked. -/
import Derived.Test.YtgaeoglhammjiaaBookI4
import Derived.Test.YtgaeoglhammjiaaBookE4
import Derived.Test.YtgaeoglhammjiaaBookNilIE
namespace Go.Proofs.Ytgaeoglhammjiaa
open Go.RowKit
set_option maxHeartbeats 4000000
set_option maxRecDepth 100000
set_option linter.unusedVariables false

theorem put_allI {vs : List Value} {xss yss : List (List Value)} (hp : PutI vs.length xss yss) (hl : vs.length = xss.length) (hf : ∀ xs ∈ xss, xs.length ≤ 1000000) :
    ∀ (j : Nat) (xs : List Value), yss[j]? = some xs → xs = marksOf mkI j 0 xs.length ∧ xs.length ≤ 1000000 := by
  intro j ys hy
  obtain ⟨xs, hx⟩ := get_of_len hp.1 hy
  have hj : j < vs.length := by rw [hl]; exact (List.getElem?_eq_some_iff.1 hx).1
  have h := hp.2 j xs ys hx hy
  refine ⟨by rw [h.1]; exact h.2 hj, by rw [h.1]; exact hf xs (List.mem_of_getElem? hx)⟩
theorem put_allE {vs : List Value} {xss yss : List (List Value)} (hp : PutE vs.length xss yss) (hl : vs.length = xss.length) (hf : ∀ xs ∈ xss, xs.length ≤ 3000000) :
    ∀ (j : Nat) (xs : List Value), yss[j]? = some xs → xs = marksOf mkE j 0 (xs.length / 3) ∧ xs.length ≤ 3000000 := by
  intro j ys hy
  obtain ⟨xs, hx⟩ := get_of_len hp.1 hy
  have hj : j < vs.length := by rw [hl]; exact (List.getElem?_eq_some_iff.1 hx).1
  have h := hp.2 j xs ys hx hy
  refine ⟨by rw [h.1]; exact h.2 hj, by rw [h.1]; exact hf xs (List.mem_of_getElem? hx)⟩

theorem KindI.keepS {w w' : World} {B base : Nat} {S : Nat → Prop} {tv wv : Value} {vs ws : List Value} {xss : List (List Value)} (h : KindI w base tv wv vs ws xss) (hb : BelowS S B w w')
    (hn : ∀ (e : TypeId) (c n b : Nat) (v : Value) (xs : List Value), (e = 23 ∨ e = 3) → w.ownsRow b e c v n xs → ∀ g, v.ownBlock = some g → ¬ S g) : KindI w' base tv wv vs ws xss :=
  ⟨own_keepS h.rt hb (hn _ _ _ _ _ _ (.inl rfl) h.rt), own_keepS h.rw hb (hn _ _ _ _ _ _ (.inl rfl) h.rw), h.ap,
   h.lv.keepS hb (fun i v g hv hg => by obtain ⟨xs, hx⟩ := get_of_len h.lv.len hv; obtain ⟨n, ho⟩ := h.lv.own i v xs hv hx; exact hn _ _ _ _ _ _ (.inr rfl) ho g hg),
   h.lw.keepS hb (fun i v g hv hg => by obtain ⟨xs, hx⟩ := get_of_len h.lw.len hv; obtain ⟨n, ho⟩ := h.lw.own i v xs hv hx; exact hn _ _ _ _ _ _ (.inr rfl) ho g hg), h.form, h.few⟩
theorem KindE.keepS {w w' : World} {B base : Nat} {S : Nat → Prop} {tv wv : Value} {vs ws : List Value} {xss : List (List Value)} (h : KindE w base tv wv vs ws xss) (hb : BelowS S B w w')
    (hn : ∀ (e : TypeId) (c n b : Nat) (v : Value) (xs : List Value), (e = 22 ∨ e = 26) → w.ownsRow b e c v n xs → ∀ g, v.ownBlock = some g → ¬ S g) : KindE w' base tv wv vs ws xss :=
  ⟨own_keepS h.rt hb (hn _ _ _ _ _ _ (.inl rfl) h.rt), own_keepS h.rw hb (hn _ _ _ _ _ _ (.inl rfl) h.rw), h.ap,
   h.lv.keepS hb (fun i v g hv hg => by obtain ⟨xs, hx⟩ := get_of_len h.lv.len hv; obtain ⟨n, ho⟩ := h.lv.own i v xs hv hx; exact hn _ _ _ _ _ _ (.inr rfl) ho g hg),
   h.lw.keepS hb (fun i v g hv hg => by obtain ⟨xs, hx⟩ := get_of_len h.lw.len hv; obtain ⟨n, ho⟩ := h.lw.own i v xs hv hx; exact hn _ _ _ _ _ _ (.inr rfl) ho g hg), h.form, h.few⟩

theorem apartIE_any (g base : Nat) (cs : Array Value) (tI wI tE wE : Value) (vI uI vE uE : List Value) (xI xE : List (List Value)) (w : World)
    (hB : BlkIs w g 49 cs) (h2 : cs[2]? = some tI) (h3 : cs[3]? = some wI) (h6 : cs[6]? = some tE) (h7 : cs[7]? = some wE) (hnil : ∀ i, i = 0 ∨ i = 4 ∨ i = 8 ∨ i = 10 → cs[i]? = some (.slice none 0 0)) (hgb : g < base) (hbs : base ≤ w.heap.size)
    (hKI : KindI w base tI wI vI uI xI) (hKE : KindE w base tE wE vE uE xE) (hlI : vI.length ≤ 250) (hlE : vE.length ≤ 250) :
    Calls Try.prog 30 #[.pointer (some ⟨g, 0, none⟩)] w fun e w' => e = .returned (.bool true) ∧ Below base w w' := by
  have hstI := stillInts_any g base cs tI wI vI uI xI w hB h2 h3 hKI hlI
  have hstE := fun k => stillEntries_any g base cs tE wE vE uE xE (w.drewN k) (hB.drewN k) h6 h7 (hKE.drewN k) hlE
  have hnc : ∀ wx, BlkIs wx g 49 cs → wx.cell? ⟨g, 0, none⟩ = some (.slice none 0 0) ∧ wx.cell? ⟨g, 4, none⟩ = some (.slice none 0 0) ∧ wx.cell? ⟨g, 8, none⟩ = some (.slice none 0 0) ∧ wx.cell? ⟨g, 10, none⟩ = some (.slice none 0 0) :=
    fun wx h => ⟨(h.cell 0).trans (hnil 0 (by omega)), (h.cell 4).trans (hnil 4 (by omega)), (h.cell 8).trans (hnil 8 (by omega)), (h.cell 10).trans (hnil 10 (by omega))⟩
  have htc : ∀ wx, BlkIs wx g 49 cs → wx.cell? ⟨g, 2, none⟩ = some tI ∧ wx.cell? ⟨g, 6, none⟩ = some tE := fun wx h => ⟨(h.cell 2).trans h2, (h.cell 6).trans h6⟩
  have HB := Lib.hid hB; have H2 := Lib.hid h2; have H6 := Lib.hid h6; have HKI := Lib.hid hKI; have HKE := Lib.hid hKE; have HstI := Lib.hid hstI; have HstE := Lib.hid hstE; have Hnc := Lib.hid hnc; have Htc := Lib.hid htc
  clear hB h2 h3 h6 h7 hnil hKI hKE hstI hstE hnc htc
  obtain ⟨c0, c4, c8, c10⟩ := Hnc.out w HB.out
  go_enter Try.func30, Try.ntmps30
  go_wp2_with (go_at_call 43; refine (stillTexts_nil g _ c0).mono ?_; rintro e w9 ⟨rfl, rfl⟩)
  refine HstI.out.mono ?_
  rintro e w1 ⟨rfl, k1, rfl⟩
  clear c0 c4 c8 c10
  have HB1 : Hid (BlkIs (w.drewN k1) g 49 cs) := Lib.hid (HB.out.drewN k1)
  obtain ⟨W1, hW1⟩ : ∃ W1, w.drewN k1 = W1 := ⟨_, rfl⟩
  have HK1 := Lib.hid (HKI.out.drewN k1)
  have HE1 := Lib.hid (HKE.out.drewN k1)
  have Hst1 := Lib.hid (HstE.out k1)
  have hbs1 : base ≤ (w.drewN k1).heap.size := hbs
  have Hb1 : Hid (Below base w (w.drewN k1)) := Lib.hid (below_drewN (Below.refl _ _) k1)
  rw [hW1] at HB1 HK1 HE1 Hst1 hbs1 Hb1 ⊢
  clear hW1 HstI HstE
  obtain ⟨c0, c4, c8, c10⟩ := Hnc.out W1 HB1.out
  go_wp2_with (go_at_call 45; refine (stillStored_nil g _ c4).mono ?_; rintro e w9 ⟨rfl, rfl⟩)
  refine Hst1.out.mono ?_
  rintro e w2 ⟨rfl, k2, rfl⟩
  clear c0 c4 c8 c10 Hst1
  have HB2 : Hid (BlkIs (W1.drewN k2) g 49 cs) := Lib.hid (HB1.out.drewN k2)
  obtain ⟨W2, hW2⟩ : ∃ W2, W1.drewN k2 = W2 := ⟨_, rfl⟩
  have HK2 := Lib.hid (HK1.out.drewN k2)
  have HE2 := Lib.hid (HE1.out.drewN k2)
  have hbs2 : base ≤ (W1.drewN k2).heap.size := hbs1
  have Hb2 : Hid (Below base w (W1.drewN k2)) := Lib.hid (below_drewN Hb1.out k2)
  rw [hW2] at HB2 HK2 HE2 hbs2 Hb2 ⊢
  clear hW2 HK1 HE1 HB1 Hb1 hbs1
  obtain ⟨c0, c4, c8, c10⟩ := Hnc.out W2 HB2.out
  go_wp2_with (first
    | (go_at_call 47; refine (stillPackets_nil g _ c8).mono ?_; rintro e w9 ⟨rfl, rfl⟩)
    | (go_at_call 48; refine (stillSteps_nil g _ c10).mono ?_; rintro e w9 ⟨rfl, rfl⟩)
    | (go_at_call 49; refine (putSteps_nil g _ c10).mono ?_; rintro e w9 ⟨rfl, rfl⟩)
    | (go_at_call 50; refine (putTexts_nil g _ c0).mono ?_; rintro e w9 ⟨rfl, rfl⟩))
  refine (putInts_any g base cs tI vI xI _ HB2.out H2.out hgb hbs2 HK2.out.rt HK2.out.lv HK2.out.few hlI).mono ?_
  rintro e w3 ⟨rfl, hB3, hrI3, ⟨yI, hLI3, hputI⟩, hb3⟩
  have hmkI := put_allI hputI HK2.out.lv.len HK2.out.few
  have hrE3 := own_keepS HE2.out.rt hb3 (own_not HE2.out.rt HK2.out.lv (by decide))
  have hLE3 := HE2.out.lv.keepS hb3 (lists_not HE2.out.lv HK2.out.lv (by decide))
  have hbs3 : base ≤ w3.heap.size := Nat.le_trans hbs2 hb3.size
  have HB3 := Lib.hid hB3; have HrI3 := Lib.hid hrI3; have HLI3 := Lib.hid hLI3; have HmkI := Lib.hid hmkI; have HrE3 := Lib.hid hrE3; have HLE3 := Lib.hid hLE3; have Hb3 := Lib.hid (Hb2.out.trans hb3.below)
  clear hB3 hrI3 hLI3 hputI hmkI hrE3 hLE3 hb3 c0 c4 c8 c10
  obtain ⟨c0, c4, c8, c10⟩ := Hnc.out w3 HB3.out
  go_wp2_with (go_at_call 52; refine (putStored_nil g _ c4).mono ?_; rintro e w9 ⟨rfl, rfl⟩)
  refine (putEntries_any g base cs tE vE xE _ HB3.out H6.out hgb hbs3 HrE3.out HLE3.out HE2.out.few hlE).mono ?_
  rintro e w4 ⟨rfl, hB4, hrE4, ⟨yE, hLE4, hputE⟩, hb4⟩
  have hmkE := put_allE hputE HLE3.out.len HE2.out.few
  have hrI4 := own_keepS HrI3.out hb4 (own_not HrI3.out HLE3.out (by decide))
  have hLI4 := HLI3.out.keepS hb4 (lists_not HLI3.out HLE3.out (by decide))
  have hbs4 : base ≤ w4.heap.size := Nat.le_trans hbs3 hb4.size
  have HB4 := Lib.hid hB4; have HrI4 := Lib.hid hrI4; have HLI4 := Lib.hid hLI4; have HmkE := Lib.hid hmkE; have HrE4 := Lib.hid hrE4; have HLE4 := Lib.hid hLE4; have Hb4 := Lib.hid (Hb3.out.trans hb4.below)
  clear hB4 hrE4 hLE4 hputE hmkE hrI4 hLI4 hb4 c0 c4 c8 c10 HB3 HrI3 HLI3 HrE3 HLE3 Hb3 HB2 HK2 HE2 Hb2
  obtain ⟨c0, c4, c8, c10⟩ := Hnc.out w4 HB4.out
  go_wp2_with (first
    | (go_at_call 54; refine (putPackets_nil g _ c8).mono ?_; rintro e w9 ⟨rfl, rfl⟩)
    | (go_at_call 55; refine (growTexts_nil g _ c0).mono ?_; rintro e w9 ⟨rfl, rfl⟩))
  refine (growInts_any g base cs tI vI yI _ HB4.out H2.out hgb hbs4 HrI4.out HLI4.out HmkI.out hlI).mono ?_
  rintro e w5 ⟨oI, usI, gsI, rfl, hB5, hrI5, hoI5, hLI5, hgI5, hvI5, hb5⟩
  have hrE5 := own_keepS HrE4.out hb5 (own_not HrE4.out HLI4.out (by decide))
  have hLE5 := HLE4.out.keepS hb5 (lists_not HLE4.out HLI4.out (by decide))
  have hnIE := lists_not HLI4.out HLE4.out (by decide)
  have hbs5 : base ≤ w5.heap.size := Nat.le_trans hbs4 hb5.size
  have HB5 := Lib.hid hB5; have HrI5 := Lib.hid hrI5; have HoI5 := Lib.hid hoI5; have HLI5 := Lib.hid hLI5; have HgI5 := Lib.hid hgI5; have HvI5 := Lib.hid hvI5; have HrE5 := Lib.hid hrE5; have HLE5 := Lib.hid hLE5; have HnIE := Lib.hid hnIE; have Hb5 := Lib.hid (Hb4.out.trans hb5.below)
  have HlenI := Lib.hid HLI4.out.len
  clear hB5 hrI5 hoI5 hLI5 hgI5 hvI5 hrE5 hLE5 hnIE hb5 c0 c4 c8 c10 HB4 HrI4 HLI4 HrE4 HLE4 Hb4
  obtain ⟨c0, c4, c8, c10⟩ := Hnc.out w5 HB5.out
  go_wp2_with (go_at_call 57; refine (growStored_nil g _ c4).mono ?_; rintro e w9 ⟨rfl, rfl⟩)
  refine (growEntries_any g base cs tE vE yE _ HB5.out H6.out hgb hbs5 HrE5.out HLE5.out HmkE.out hlE).mono ?_
  rintro e w6 ⟨oE, usE, gsE, rfl, hB6, hrE6, hoE6, hLE6, hgE6, hvE6, hb6⟩
  have hrI6 := own_keepS HrI5.out hb6 (own_not HrI5.out HLE5.out (by decide))
  have hoI6 := own_keepS HoI5.out hb6 (own_not HoI5.out HLE5.out (by decide))
  have hLI6 := HLI5.out.keepS hb6 (lists_not HLI5.out HLE5.out (by decide))
  have hvI6 := HvI5.out.keepS hb6 HnIE.out
  have hbs6 : base ≤ w6.heap.size := Nat.le_trans hbs5 hb6.size
  have hsI1 : ∀ (k : Nat) (v : Value), usI[k]? = some v → ∃ n, n ≤ 2000000 ∧ Shows w6 1 v (marksOf mkI k 0 n) := fun k v hv => by
    obtain ⟨gs, hgs⟩ := get_of_len hLI6.len hv
    obtain ⟨xs, hxs⟩ := get_of_len HgI5.out.1 hgs
    have hm := HmkI.out k xs hxs
    have hk : k < vI.length := by rw [HlenI.out]; exact (List.getElem?_eq_some_iff.1 hxs).1
    have := (HgI5.out.2 k xs gs hxs hgs).1 hk
    subst this
    exact ⟨xs.length + 72, by omega, hLI6.shows hv hgs⟩
  have hsI2 : ∀ (k : Nat) (v : Value), vI[k]? = some v → ∃ n, n ≤ 2000000 ∧ Shows w6 1 v (marksOf mkI k 0 n) := fun k v hv => by
    obtain ⟨xs, hxs⟩ := get_of_len HlenI.out hv
    have hm := HmkI.out k xs hxs
    have := hvI6.shows hv hxs
    rw [hm.1] at this
    exact ⟨xs.length, by omega, this⟩
  have hsE1 : ∀ (k : Nat) (v : Value), usE[k]? = some v → ∃ n, n ≤ 2000000 ∧ Shows w6 3 v (marksOf mkE k 0 n) := fun k v hv => by
    obtain ⟨gs, hgs⟩ := get_of_len hLE6.len hv
    obtain ⟨xs, hxs⟩ := get_of_len hgE6.1 hgs
    have hm := HmkE.out k xs hxs
    have hk : k < vE.length := by rw [HLE5.out.len]; exact (List.getElem?_eq_some_iff.1 hxs).1
    have := (hgE6.2 k xs gs hxs hgs).1 hk
    subst this
    exact ⟨xs.length / 3 + 72, by omega, hLE6.shows hv hgs⟩
  have hsE2 : ∀ (k : Nat) (v : Value), vE[k]? = some v → ∃ n, n ≤ 2000000 ∧ Shows w6 3 v (marksOf mkE k 0 n) := fun k v hv => by
    obtain ⟨xs, hxs⟩ := get_of_len HLE5.out.len hv
    have hm := HmkE.out k xs hxs
    have := hvE6.shows hv hxs
    rw [hm.1] at this
    exact ⟨xs.length / 3, by omega, this⟩
  obtain ⟨AoI, coI, rfl, _⟩ := own_slice hoI6
  obtain ⟨AtI, ctI, rfl, _⟩ := own_slice hrI6
  obtain ⟨AoE, coE, rfl, _⟩ := own_slice hoE6
  obtain ⟨AtE, ctE, rfl, _⟩ := own_slice hrE6
  have hlI9 : vI.length ≤ 1000 := by omega
  have hlE9 : vE.length ≤ 1000 := by omega
  have hF : ∀ wx, Below w6.heap.size w6 wx → BlkIs wx g 49 cs ∧ (SlR wx wx.heap.size 1 AoI vI.length usI ∧ SlR wx wx.heap.size 1 AtI vI.length vI ∧ SlR wx wx.heap.size 1 AoE vE.length usE ∧ SlR wx wx.heap.size 1 AtE vE.length vE) ∧
      (∀ (k : Nat) (v : Value), usI[k]? = some v → ∃ n, n ≤ 2000000 ∧ Shows wx 1 v (marksOf mkI k 0 n)) ∧ (∀ (k : Nat) (v : Value), vI[k]? = some v → ∃ n, n ≤ 2000000 ∧ Shows wx 1 v (marksOf mkI k 0 n)) ∧ (∀ (k : Nat) (v : Value), usE[k]? = some v → ∃ n, n ≤ 2000000 ∧ Shows wx 3 v (marksOf mkE k 0 n)) ∧ (∀ (k : Nat) (v : Value), vE[k]? = some v → ∃ n, n ≤ 2000000 ∧ Shows wx 3 v (marksOf mkE k 0 n)) := fun wx hx =>
    ⟨hB6.below hx hB6.lt, ⟨((SlR.own hoI6).below hx).more hx.size, ((SlR.own hrI6).below hx).more hx.size, ((SlR.own hoE6).below hx).more hx.size, ((SlR.own hrE6).below hx).more hx.size⟩,
      fun k v hv => by obtain ⟨n, hn, hs⟩ := hsI1 k v hv; exact ⟨n, hn, hs.below hx⟩, fun k v hv => by obtain ⟨n, hn, hs⟩ := hsI2 k v hv; exact ⟨n, hn, hs.below hx⟩, fun k v hv => by obtain ⟨n, hn, hs⟩ := hsE1 k v hv; exact ⟨n, hn, hs.below hx⟩, fun k v hv => by obtain ⟨n, hn, hs⟩ := hsE2 k v hv; exact ⟨n, hn, hs.below hx⟩⟩
  have HF := Lib.hid hF; have Hb6 := Lib.hid (Hb5.out.trans hb6.below)
  have HB6 := Lib.hid hB6
  have hmkIs := fun wx (hx : Below w6.heap.size w6 wx) => And.intro (markedInts_any AoI vI.length coI usI wx (hF wx hx).2.1.1 (hF wx hx).2.2.1 hlI9) (markedInts_any AtI vI.length ctI vI wx (hF wx hx).2.1.2.1 (hF wx hx).2.2.2.1 hlI9)
  have hmkEs := fun wx (hx : Below w6.heap.size w6 wx) => And.intro (markedEntries_any AoE vE.length coE usE wx (hF wx hx).2.1.2.2.1 (hF wx hx).2.2.2.2.1 hlE9) (markedEntries_any AtE vE.length ctE vE wx (hF wx hx).2.1.2.2.2 (hF wx hx).2.2.2.2.2 hlE9)
  have HmI := Lib.hid hmkIs; have HmE := Lib.hid hmkEs
  have hr6 := Below.refl w6.heap.size w6
  clear hB6 hrE6 hoE6 hLE6 hgE6 hvE6 hb6 hrI6 hoI6 hLI6 hvI6 hsI1 hsI2 hsE1 hsE2 hF hmkIs hmkEs c0 c4 c8 c10 HB5 HrI5 HoI5 HLI5 HgI5 HvI5 HrE5 HLE5 HnIE Hb5 HlenI HmkI HmkE
  obtain ⟨c0, c4, c8, c10⟩ := Hnc.out w6 HB6.out
  obtain ⟨c2, c6⟩ := Htc.out w6 HB6.out
  go_wp2_with (first
    | (go_at_call 59; refine (growPackets_nil g _ c8).mono ?_; rintro e w9 ⟨rfl, rfl⟩)
    | (go_at_call 60; refine (growSteps_nil g _ c10).mono ?_; rintro e w9 ⟨rfl, rfl⟩)
    | (go_at_call 61; refine (markedTexts_nil _).mono ?_; rintro e w9 ⟨rfl, rfl⟩))
  have Hr6 := Lib.hid hr6
  refine ((HmI.out w6 Hr6.out).1).mono ?_
  rintro e w7 ⟨rfl, hb7⟩
  have Hr7 := Lib.hid (Hr6.out.trans (hb7.mono Hr6.out.size))
  clear hb7 c0 c4 c8 c10 c2 c6
  obtain ⟨c0, c4, c8, c10⟩ := Hnc.out w7 (HF.out w7 Hr7.out).1
  obtain ⟨c2, c6⟩ := Htc.out w7 (HF.out w7 Hr7.out).1
  go_wp2_with (first
    | (go_at_call 63; refine (markedStored_nil _).mono ?_; rintro e w9 ⟨rfl, rfl⟩)
    | (go_at_call 65; refine (markedPackets_nil _).mono ?_; rintro e w9 ⟨rfl, rfl⟩)
    | (go_at_call 66; refine (markedSteps_nil _).mono ?_; rintro e w9 ⟨rfl, rfl⟩))
  refine ((HmI.out w7 Hr7.out).2).mono ?_
  rintro e w8 ⟨rfl, hb8⟩
  have Hr8 := Lib.hid (Hr7.out.trans (hb8.mono Hr7.out.size))
  clear hb8 c0 c4 c8 c10 c2 c6
  obtain ⟨c0, c4, c8, c10⟩ := Hnc.out w8 (HF.out w8 Hr8.out).1
  obtain ⟨c2, c6⟩ := Htc.out w8 (HF.out w8 Hr8.out).1
  go_wp2_with (first
    | (go_at_call 63; refine (markedStored_nil _).mono ?_; rintro e w9 ⟨rfl, rfl⟩)
    | (go_at_call 65; refine (markedPackets_nil _).mono ?_; rintro e w9 ⟨rfl, rfl⟩)
    | (go_at_call 66; refine (markedSteps_nil _).mono ?_; rintro e w9 ⟨rfl, rfl⟩))
  refine ((HmE.out w8 Hr8.out).1).mono ?_
  rintro e w10 ⟨rfl, hb9⟩
  have Hr9 := Lib.hid (Hr8.out.trans (hb9.mono Hr8.out.size))
  clear hb9 c0 c4 c8 c10 c2 c6
  obtain ⟨c0, c4, c8, c10⟩ := Hnc.out w10 (HF.out w10 Hr9.out).1
  obtain ⟨c2, c6⟩ := Htc.out w10 (HF.out w10 Hr9.out).1
  go_wp2_with (first
    | (go_at_call 63; refine (markedStored_nil _).mono ?_; rintro e w9 ⟨rfl, rfl⟩)
    | (go_at_call 65; refine (markedPackets_nil _).mono ?_; rintro e w9 ⟨rfl, rfl⟩)
    | (go_at_call 66; refine (markedSteps_nil _).mono ?_; rintro e w9 ⟨rfl, rfl⟩))
  refine ((HmE.out w10 Hr9.out).2).mono ?_
  rintro e w11 ⟨rfl, hb10⟩
  have Hr10 := Lib.hid (Hr9.out.trans (hb10.mono Hr9.out.size))
  clear hb10 c0 c4 c8 c10 c2 c6
  obtain ⟨c0, c4, c8, c10⟩ := Hnc.out w11 (HF.out w11 Hr10.out).1
  obtain ⟨c2, c6⟩ := Htc.out w11 (HF.out w11 Hr10.out).1
  go_wp2_with (first
    | (go_at_call 63; refine (markedStored_nil _).mono ?_; rintro e w9 ⟨rfl, rfl⟩)
    | (go_at_call 65; refine (markedPackets_nil _).mono ?_; rintro e w9 ⟨rfl, rfl⟩)
    | (go_at_call 66; refine (markedSteps_nil _).mono ?_; rintro e w9 ⟨rfl, rfl⟩))
  go_ret
  exact ⟨rfl, Hb6.out.trans (Hr10.out.mono hbs6)⟩
end Go.Proofs.Ytgaeoglhammjiaa
