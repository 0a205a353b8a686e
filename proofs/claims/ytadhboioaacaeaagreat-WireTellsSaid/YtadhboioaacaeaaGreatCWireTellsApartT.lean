/- The statements' book: Apart, of a book that has lists of texts alone, walked. -/
import Derived.Test.YtadhboioaacaeaaGreatCWireTellsBookT4
import Derived.Test.YtadhboioaacaeaaGreatCWireTellsBookNil

namespace Go.Proofs.YtadhboioaacaeaaGreat
open Go.RowKit
set_option maxHeartbeats 4000000
set_option maxRecDepth 100000
set_option linter.unusedVariables false

theorem put_all {vs : List Value} {w : World} {base : Nat} {e : TypeId} {c : Nat} {xss yss : List (List Value)} (hp : Put vs.length xss yss) (hl : vs.length = xss.length) (hf : ∀ xs ∈ xss, xs.length ≤ 1000000) :
    ∀ (j : Nat) (xs : List Value), yss[j]? = some xs → xs = marksOf mkT j 0 xs.length ∧ xs.length ≤ 1000000 := by
  intro j ys hy
  obtain ⟨xs, hx⟩ := get_of_len hp.1 hy
  have hj : j < vs.length := by rw [hl]; exact (List.getElem?_eq_some_iff.1 hx).1
  have h := hp.2 j xs ys hx hy
  refine ⟨by rw [h.1]; exact h.2 hj, by rw [h.1]; exact hf xs (List.mem_of_getElem? hx)⟩

theorem apartT_any (g base : Nat) (cs : Array Value) (tv wv : Value) (vs ws : List Value) (xss : List (List Value)) (w : World)
    (hB : BlkIs w g 35 cs) (h0 : cs[0]? = some tv) (h1 : cs[1]? = some wv) (hnil : ∀ i, i = 2 ∨ i = 4 ∨ i = 6 ∨ i = 8 ∨ i = 10 → cs[i]? = some (.slice none 0 0)) (hgb : g < base) (hbs : base ≤ w.heap.size) (hK : KindT w base tv wv vs ws xss) (hl : vs.length ≤ 250) :
    Calls Tryz.prog 15 #[.pointer (some ⟨g, 0, none⟩)] w fun e w' => e = .returned (.bool true) ∧ Below base w w' := by
  have hstill := stillTexts_any g base cs tv wv vs ws xss w hB h0 h1 hK hl
  have hnc : ∀ wx, BlkIs wx g 35 cs → wx.cell? ⟨g, 2, none⟩ = some (.slice none 0 0) ∧ wx.cell? ⟨g, 4, none⟩ = some (.slice none 0 0) ∧ wx.cell? ⟨g, 6, none⟩ = some (.slice none 0 0) ∧ wx.cell? ⟨g, 8, none⟩ = some (.slice none 0 0) ∧ wx.cell? ⟨g, 10, none⟩ = some (.slice none 0 0) :=
    fun wx h => ⟨(h.cell 2).trans (hnil 2 (by omega)), (h.cell 4).trans (hnil 4 (by omega)), (h.cell 6).trans (hnil 6 (by omega)), (h.cell 8).trans (hnil 8 (by omega)), (h.cell 10).trans (hnil 10 (by omega))⟩
  have htc : ∀ wx, BlkIs wx g 35 cs → wx.cell? ⟨g, 0, none⟩ = some tv := fun wx h => (h.cell 0).trans h0
  have HB := Lib.hid hB; have H0 := Lib.hid h0; have HK := Lib.hid hK; have Hst := Lib.hid hstill; have Hnc := Lib.hid hnc; have Htc := Lib.hid htc
  clear hB h0 h1 hnil hK hstill hnc htc
  go_enter Tryz.func15, Tryz.ntmps15
  go_wp2_with fail
  refine Hst.out.mono ?_
  rintro e w1 ⟨rfl, k1, rfl⟩
  have HB1 : Hid (BlkIs (w.drewN k1) g 35 cs) := Lib.hid (HB.out.drewN k1)
  obtain ⟨W1, hW1⟩ : ∃ W1, w.drewN k1 = W1 := ⟨_, rfl⟩
  have HK1 := Lib.hid (HK.out.drewN k1)
  have hbs1 : base ≤ (w.drewN k1).heap.size := hbs
  have Hb1 : Hid (Below base w (w.drewN k1)) := Lib.hid (below_drewN (Below.refl _ _) k1)
  rw [hW1] at HB1 HK1 hbs1 Hb1 ⊢
  clear hW1
  obtain ⟨c2, c4, c6, c8, c10⟩ := Hnc.out W1 HB1.out
  go_wp2_with (first
    | (go_at_call 47; refine (stillInts_nil g _ c2).mono ?_; rintro e w9 ⟨rfl, rfl⟩)
    | (go_at_call 48; refine (stillStored_nil g _ c4).mono ?_; rintro e w9 ⟨rfl, rfl⟩)
    | (go_at_call 49; refine (stillEntries_nil g _ c6).mono ?_; rintro e w9 ⟨rfl, rfl⟩)
    | (go_at_call 50; refine (stillPackets_nil g _ c8).mono ?_; rintro e w9 ⟨rfl, rfl⟩)
    | (go_at_call 51; refine (stillSteps_nil g _ c10).mono ?_; rintro e w9 ⟨rfl, rfl⟩)
    | (go_at_call 52; refine (putSteps_nil g _ c10).mono ?_; rintro e w9 ⟨rfl, rfl⟩))
  refine (putTexts_any g base cs tv vs xss _ HB1.out H0.out hgb hbs1 HK1.out.rt HK1.out.lv HK1.out.few hl).mono ?_
  rintro e w2 ⟨rfl, hB2, hr2, ⟨yss, hL2, hput⟩, hb2⟩
  have hmk := put_all (w := w) (base := base) (e := 9) (c := 1) hput HK1.out.lv.len HK1.out.few
  have hbs2 : base ≤ w2.heap.size := Nat.le_trans hbs1 hb2.size
  have HB2 := Lib.hid hB2; have Hr2 := Lib.hid hr2; have HL2 := Lib.hid hL2; have Hmk := Lib.hid hmk; have Hb2 := Lib.hid (Hb1.out.trans hb2)
  clear hB2 hr2 hL2 hmk hput hb2 c2 c4 c6 c8 c10
  obtain ⟨c2, c4, c6, c8, c10⟩ := Hnc.out w2 HB2.out
  go_wp2_with (first
    | (go_at_call 54; refine (putInts_nil g _ c2).mono ?_; rintro e w9 ⟨rfl, rfl⟩)
    | (go_at_call 55; refine (putStored_nil g _ c4).mono ?_; rintro e w9 ⟨rfl, rfl⟩)
    | (go_at_call 56; refine (putEntries_nil g _ c6).mono ?_; rintro e w9 ⟨rfl, rfl⟩)
    | (go_at_call 57; refine (putPackets_nil g _ c8).mono ?_; rintro e w9 ⟨rfl, rfl⟩))
  refine (growTexts_any g base cs tv vs yss _ HB2.out H0.out hgb hbs2 Hr2.out HL2.out Hmk.out hl).mono ?_
  rintro e w3 ⟨ov, us, gss, rfl, hB3, hr3, ho3, hL3, hg3, hv3, hb3⟩
  obtain ⟨Ao, co, rfl, hco⟩ := own_slice ho3
  obtain ⟨At, ct, rfl, hct⟩ := own_slice hr3
  have hbs3 : base ≤ w3.heap.size := Nat.le_trans hbs2 hb3.size
  have hs1 : ∀ (k : Nat) (v : Value), us[k]? = some v → ∃ n, n ≤ 2000000 ∧ Shows w3 1 v (marksOf mkT k 0 n) := fun k v hv => by
    obtain ⟨gs, hgs⟩ := get_of_len hL3.len hv
    obtain ⟨xs, hxs⟩ := get_of_len hg3.1 hgs
    have hm := Hmk.out k xs hxs
    have hk : k < vs.length := by rw [HL2.out.len]; exact (List.getElem?_eq_some_iff.1 hxs).1
    have := (hg3.2 k xs gs hxs hgs).1 hk
    subst this
    exact ⟨xs.length + 72, by omega, hL3.shows hv hgs⟩
  have hs2 : ∀ (k : Nat) (v : Value), vs[k]? = some v → ∃ n, n ≤ 2000000 ∧ Shows w3 1 v (marksOf mkT k 0 n) := fun k v hv => by
    obtain ⟨xs, hxs⟩ := get_of_len HL2.out.len hv
    have hm := Hmk.out k xs hxs
    have := hv3.shows hv hxs
    rw [hm.1] at this
    exact ⟨xs.length, by omega, this⟩
  have HB3 := Lib.hid hB3; have Hr3 := Lib.hid hr3; have Hro := Lib.hid (SlR.own ho3); have Hrv := Lib.hid (SlR.own hr3); have Hs1 := Lib.hid hs1; have Hs2 := Lib.hid hs2; have Hb3 := Lib.hid (Hb2.out.trans hb3)
  have hl9 : vs.length ≤ 1000 := by omega
  clear hB3 hr3 ho3 hL3 hg3 hv3 hs1 hs2 hb3 c2 c4 c6 c8 c10
  obtain ⟨c2, c4, c6, c8, c10⟩ := Hnc.out w3 HB3.out
  go_wp2_with (first
    | (go_at_call 59; refine (growInts_nil g _ c2).mono ?_; rintro e w9 ⟨rfl, rfl⟩)
    | (go_at_call 60; refine (growStored_nil g _ c4).mono ?_; rintro e w9 ⟨rfl, rfl⟩)
    | (go_at_call 61; refine (growEntries_nil g _ c6).mono ?_; rintro e w9 ⟨rfl, rfl⟩)
    | (go_at_call 62; refine (growPackets_nil g _ c8).mono ?_; rintro e w9 ⟨rfl, rfl⟩)
    | (go_at_call 63; refine (growSteps_nil g _ c10).mono ?_; rintro e w9 ⟨rfl, rfl⟩))
  refine (markedTexts_any Ao vs.length co us _ Hro.out Hs1.out hl9).mono ?_
  rintro e w4 ⟨rfl, hb4⟩
  have HB4 := Lib.hid (HB3.out.below hb4 HB3.out.lt)
  have hc0 := Htc.out w4 HB4.out
  have Hrv4 := Lib.hid ((Hrv.out.below hb4).more hb4.size)
  have Hs4 : Hid (∀ (k : Nat) (v : Value), vs[k]? = some v → ∃ n, n ≤ 2000000 ∧ Shows w4 1 v (marksOf mkT k 0 n)) := Lib.hid (fun k v hv => by
    obtain ⟨n, hn, hs⟩ := Hs2.out k v hv
    exact ⟨n, hn, hs.below hb4⟩)
  have Hb4 := Lib.hid (Hb3.out.trans (hb4.mono hbs3))
  have hbs4 : base ≤ w4.heap.size := Nat.le_trans hbs3 hb4.size
  clear hb4 c2 c4 c6 c8 c10
  obtain ⟨c2, c4, c6, c8, c10⟩ := Hnc.out w4 HB4.out
  go_wp2_with fail
  refine (markedTexts_any At vs.length ct vs _ Hrv4.out Hs4.out hl9).mono ?_
  rintro e w5 ⟨rfl, hb5⟩
  have HB5 := Lib.hid (HB4.out.below hb5 HB4.out.lt)
  have Hb5 := Lib.hid (Hb4.out.trans (hb5.mono hbs4))
  clear hb5 c2 c4 c6 c8 c10 hc0
  obtain ⟨c2, c4, c6, c8, c10⟩ := Hnc.out w5 HB5.out
  go_wp2_with (first
    | (go_at_call 65; refine (markedInts_nil _).mono ?_; rintro e w9 ⟨rfl, rfl⟩)
    | (go_at_call 66; refine (markedStored_nil _).mono ?_; rintro e w9 ⟨rfl, rfl⟩)
    | (go_at_call 67; refine (markedEntries_nil _).mono ?_; rintro e w9 ⟨rfl, rfl⟩)
    | (go_at_call 68; refine (markedPackets_nil _).mono ?_; rintro e w9 ⟨rfl, rfl⟩)
    | (go_at_call 69; refine (markedSteps_nil _).mono ?_; rintro e w9 ⟨rfl, rfl⟩))
  go_ret
  exact ⟨rfl, Hb5.out⟩

/-- a book that has lists of texts alone -/
def bookCs (tv wv : Value) : Array Value := #[tv, wv, .slice none 0 0, .slice none 0 0, .slice none 0 0, .slice none 0 0, .slice none 0 0, .slice none 0 0, .slice none 0 0, .slice none 0 0, .slice none 0 0, .slice none 0 0]
theorem bookCs_set (tv wv tv' wv' : Value) : ((bookCs tv wv).setIfInBounds 0 tv').setIfInBounds 1 wv' = bookCs tv' wv' := rfl
theorem bookCs_nil (tv wv : Value) : ∀ i, i = 2 ∨ i = 4 ∨ i = 6 ∨ i = 8 ∨ i = 10 → (bookCs tv wv)[i]? = some (.slice none 0 0) := by
  intro i h
  rcases h with rfl | rfl | rfl | rfl | rfl <;> rfl

theorem own_at {w : World} {base : Nat} {e : TypeId} {size n m c : Nat} {A : Option Addr} {xs : List Value} (h : w.ownsRow base e size (.slice A n c) m xs) : ∀ ad, A = some ad → base ≤ ad.block ∧ ad.block < w.heap.size := by
  intro ad hA
  subst hA
  rcases h.2 with ⟨h0, _⟩ | ⟨g', cap, cur, hv, hbg, hh, _⟩
  · cases h0
  · obtain rfl : ad = ⟨g', 0, none⟩ := by injection hv with h1; injection h1
    exact ⟨hbg, (Array.getElem?_eq_some_iff.1 hh).1⟩

end Go.Proofs.YtadhboioaacaeaaGreat
