/- chapter 14: the index in memory. -/
import Derived.Test.YtfjilngofdahgaaJIndexBytes1
import Derived.Test.YtfjilngofdahgaaCIndexBytesTabLast
import Derived.Test.YtfjilngofdahgaaJIndexBytes3
import Derived.Test.YtfjilngofdahgaaCIndexBytesTabCut
import Derived.Deep.RegionLaw
import Derived.Deep.RegionHeld3
import Derived.BigRegion
import Derived.RegionTactic

namespace Go.Proofs.Ytfjilngofdahgaa
open Go.RowKit
set_option maxHeartbeats 2000000
set_option maxRecDepth 100000
set_option linter.unusedVariables false

/-- a level: a row of tables, in blocks of S; none in the block r -/
def LvIs (w : World) (S : Nat → Prop) (r : Option Nat) (v : Value) (l : Lv) : Prop :=
  ∃ us, w.ownsRow 0 32 1 v l.length us ∧ ∀ (j : Nat) (u : Value) (t : Tb), us[j]? = some u → l[j]? = some t → w.ownsRow 0 27 3 u t.length (enVs t) ∧ ∀ b, u.ownBlock = some b → S b ∧ some b ≠ r
/-- an index at block g, its blocks in S: the tab's block T, the tab's row r, the row of levels v -/
structure IxAt (w : World) (S : Nat → Prop) (g : Nat) (room most : Int) (s : Tb × List Lv) (T : Nat) (r : Option Nat) (v : Value) (vs : List Value) : Prop where
  blk : BlkIs w g 55 #[.int .i64 room, .int .i64 most, .pointer (some ⟨T, 0, none⟩), v]
  tab : TabIs w 0 T r s.1
  row : w.ownsRow 0 57 1 v s.2.length vs
  lev : ∀ (i : Nat) (v' : Value) (l : Lv), vs[i]? = some v' → s.2[i]? = some l → LvIs w S r v' l ∧ ∀ b, v'.ownBlock = some b → S b
  two : ∀ (i j : Nat) (v1 v2 : Value) (b : Nat), vs[i]? = some v1 → vs[j]? = some v2 → v1.ownBlock = some b → v2.ownBlock = some b → i = j
  sg : S g
  sT : S T
  sr : ∀ b, r = some b → S b
  sv : ∀ b, v.ownBlock = some b → S b
  lt : ∀ b, S b → b < w.heap.size
def IxIs (w : World) (S : Nat → Prop) (g : Nat) (room most : Int) (s : Tb × List Lv) : Prop := ∃ T r v vs, IxAt w S g room most s T r v vs
/-- what a call at an index makes of it -/
def IxStep (S : Nat → Prop) (g : Nat) (room most : Int) (w w' : World) (s' : Tb × List Lv) : Prop :=
  ∃ S', IxIs w' S' g room most s' ∧ Chg S w w' ∧ ∀ b, S' b → S b ∨ w.heap.size ≤ b

theorem own_type {w : World} {base base' n m c c' : Nat} {e e' : TypeId} {v v' : Value} {xs ys : List Value} (h : w.ownsRow base e c v n xs) (h' : w.ownsRow base' e' c' v' m ys) (hne : e ≠ e') {b : Nat} (hb : v.ownBlock = some b) : v'.ownBlock ≠ some b := by
  intro hb'
  rcases h.2 with ⟨h0, _⟩ | ⟨g, cap, cur, hv, _, hh, _⟩
  · rw [h0] at hb; cases hb
  · rcases h'.2 with ⟨h0, _⟩ | ⟨g', cap', cur', hv', _, hh', _⟩
    · rw [h0] at hb'; cases hb'
    · rw [hv] at hb; rw [hv'] at hb'
      simp [Value.ownBlock] at hb hb'
      subst hb hb'
      rw [hh] at hh'
      injection hh' with hh'
      injection hh' with _ h3
      exact hne h3
theorem own_len {w : World} {base e n c : Nat} {v : Value} {xs : List Value} (h : w.ownsRow base e c v n xs) : xs.length = n * c := h.1
section
variable {w w' : World} {S T : Nat → Prop} {r : Option Nat}
theorem LvIs.chg {v : Value} {l : Lv} (h : LvIs w S r v l) (hc : Chg T w w') (h1 : ∀ b, v.ownBlock = some b → ¬ T b) (h2 : ∀ b, S b → some b ≠ r → T b → False) : LvIs w' S r v l := by
  obtain ⟨us, ho, hu⟩ := h
  refine ⟨us, own_chg ho hc h1, fun j u t hj ht => ?_⟩
  obtain ⟨h3, h4⟩ := hu j u t hj ht
  exact ⟨own_chg h3 hc (fun b hb hT => h2 b (h4 b hb).1 (h4 b hb).2 hT), h4⟩
theorem LvIs.below {v : Value} {l : Lv} (h : LvIs w S r v l) (hb : Below w.heap.size w w') : LvIs w' S r v l := by
  obtain ⟨us, ho, hu⟩ := h
  refine ⟨us, own_below ho hb (fun q hq => (ho.lt q hq).2), fun j u t hj ht => ?_⟩
  obtain ⟨h3, h4⟩ := hu j u t hj ht
  exact ⟨own_below h3 hb (fun q hq => (h3.lt q hq).2), h4⟩
theorem IxAt.below {g T : Nat} {room most : Int} {s : Tb × List Lv} {v : Value} {vs : List Value} (h : IxAt w S g room most s T r v vs) (hb : Below w.heap.size w w') : IxAt w' S g room most s T r v vs :=
  ⟨h.blk.below hb h.blk.lt, h.tab.below hb, own_below h.row hb (fun q hq => (h.row.lt q hq).2), fun i v' l h1 h2 => ⟨(h.lev i v' l h1 h2).1.below hb, (h.lev i v' l h1 h2).2⟩, h.two, h.sg, h.sT, h.sr, h.sv, fun b hs => Nat.lt_of_lt_of_le (h.lt b hs) hb.size⟩
theorem IxIs.below {g : Nat} {room most : Int} {s : Tb × List Lv} (h : IxIs w S g room most s) (hb : Below w.heap.size w w') : IxIs w' S g room most s := by
  obtain ⟨T, r, v, vs, h⟩ := h
  exact ⟨T, r, v, vs, h.below hb⟩
theorem TabIs.chg {base B : Nat} {l : List En} (h : TabIs w base B r l) (hc : Chg T w w') (h1 : ¬ T B) (h2 : ∀ b, r = some b → ¬ T b) : TabIs w' base B r l := by
  obtain ⟨v, k1, k2, k3, k4⟩ := h
  exact ⟨v, k1.chg hc h1, own_chg k2 hc (fun b hb => h2 b (k3 ▸ hb)), k3, k4⟩
theorem IxAt.chg {g B : Nat} {room most : Int} {s : Tb × List Lv} {v : Value} {vs : List Value} (h : IxAt w S g room most s B r v vs) (hc : Chg T w w') (hT : ∀ b, S b → ¬ T b) : IxAt w' S g room most s B r v vs :=
  ⟨h.blk.chg hc (hT _ h.sg), h.tab.chg hc (hT _ h.sT) (fun b hb => hT b (h.sr b hb)), own_chg h.row hc (fun b hb => hT b (h.sv b hb)), fun i v' l h1 h2 => ⟨(h.lev i v' l h1 h2).1.chg hc (fun b hb => hT b ((h.lev i v' l h1 h2).2 b hb)) (fun b hs _ ht => hT b hs ht), (h.lev i v' l h1 h2).2⟩, h.two, h.sg, h.sT, h.sr, h.sv, fun b hs => Nat.lt_of_lt_of_le (h.lt b hs) hc.size⟩
theorem IxIs.chg {g : Nat} {room most : Int} {s : Tb × List Lv} (h : IxIs w S g room most s) (hc : Chg T w w') (hT : ∀ b, S b → ¬ T b) : IxIs w' S g room most s := by
  obtain ⟨B, r, v, vs, h⟩ := h
  exact ⟨B, r, v, vs, h.chg hc hT⟩
end
theorem IxStep.refl {w : World} {S : Nat → Prop} {g : Nat} {room most : Int} {s : Tb × List Lv} (h : IxIs w S g room most s) : IxStep S g room most w w s := ⟨S, h, Chg.refl _ _, fun b hb => .inl hb⟩
theorem IxStep.of_below {w w' : World} {S : Nat → Prop} {g : Nat} {room most : Int} {s : Tb × List Lv} (h : IxIs w S g room most s) (hb : Below w.heap.size w w') : IxStep S g room most w w' s := ⟨S, h.below hb, Chg.of_below hb, fun b hb => .inl hb⟩
theorem IxStep.then {w w1 w2 : World} {S S1 : Nat → Prop} {g : Nat} {room most : Int} {s2 : Tb × List Lv} (hc : Chg S w w1) (hs : ∀ b, S1 b → S b ∨ w.heap.size ≤ b) (h2 : IxStep S1 g room most w1 w2 s2) : IxStep S g room most w w2 s2 := by
  obtain ⟨S2, h3, h4, h5⟩ := h2
  refine ⟨S2, h3, hc.trans h4 (fun k hk h1 => by rcases hs k h1 with h | h; exact h; omega), fun b hb => ?_⟩
  rcases h5 b hb with h | h
  · exact hs b h
  · exact .inr (Nat.le_trans hc.size h)
theorem TabStep.chg {w w' : World} {T : Nat} {r r' : Option Nat} (h : TabStep w w' T r r') : Chg (fun b => b = T ∨ some b = r) w w' :=
  ⟨h.os, h.tape, h.output, h.size, fun k hk hn => h.block k hk (fun e => hn (.inl e)) (fun e => hn (.inr e))⟩

/-! ### what only reads -/
theorem newX_any (room most : Int) (w : World) : Calls Try.prog 9 #[.int .i64 room, .int .i64 most] w fun e w' => ∃ g S, e = .returned (.pointer (some ⟨g, 0, none⟩)) ∧ w.heap.size ≤ g ∧ IxIs w' S g (max room 1) (max most 2) ([], []) ∧ Below w.heap.size w w' ∧ ∀ b, S b → w.heap.size ≤ b := by
  have hm1 : ∀ a b : Int, (if a < b then b else a) = max a b := fun a b => by omega
  go_enter Try.func9, Try.ntmps9
  go_wp2_with fail
  refine (new_any w).mono ?_
  rintro e w1 ⟨rfl, ht, hb⟩
  have hwt := (ht 0)
  have Ht := Lib.hid ht; have Hb := Lib.hid hb
  have hl1 : w.heap.size < w1.heap.size := by obtain ⟨v, k1, _⟩ := ht 0; exact k1.lt
  clear ht hb hwt
  go_wp2_with fail
  go_ret
  have ht := Ht.out 0
  have hal : Below w1.heap.size w1 (w1.alloc (.cells #[.int .i64 (max room 1), .int .i64 (max most 2), .pointer (some ⟨w.heap.size, 0, none⟩), .slice none 0 0] 55)) := (Below.refl _ _).alloc (Nat.le_refl _) _
  refine ⟨w1.heap.size, fun b => b = w1.heap.size ∨ b = w.heap.size, rfl, Hb.out.size, ⟨w.heap.size, none, .slice none 0 0, [], BlkIs.new _ _ _, ht.below hal, World.ownsRow_nil _ _ _ _, fun i v' l h => by simp at h, fun i j v1 v2 b h => by simp at h, .inl rfl, .inr rfl, fun b h => (by cases h), fun b h => (by cases h), fun b hb => ?_⟩, Hb.out.alloc Hb.out.size _, fun b hb => ?_⟩
  · have := hal.size
    rcases hb with rfl | rfl <;> simp <;> omega
  · have := Hb.out.size
    rcases hb with rfl | rfl <;> omega

theorem tabX_any (S : Nat → Prop) (g : Nat) (room most : Int) (s : Tb × List Lv) (w : World) (h : IxIs w S g room most s) (hw : wX s ≤ 900000) :
    Calls Try.prog 33 #[.pointer (some ⟨g, 0, none⟩)] w fun e w' => ∃ r', e = .returned (.pointer (some ⟨w.heap.size, 0, none⟩)) ∧ TabIs w' 0 w.heap.size r' (allX s.1 s.2) ∧ (∀ b, r' = some b → w.heap.size ≤ b) ∧ Below w.heap.size w w' := by
  obtain ⟨mem, lv⟩ := s
  obtain ⟨T, r, v, vs, h⟩ := h
  have hfl := flats_len lv
  rw [wX_eq] at hw
  dsimp only at hw
  have hK : ∀ wx, Below w.heap.size w wx → IxAt wx S g room most (mem, lv) T r v vs := fun wx hb => h.below hb
  have hS : ∀ b, S b → b < w.heap.size := h.lt
  have K := Lib.hid hK; have HS := Lib.hid hS; have H := Lib.hid h
  have hvl : vs.length = lv.length := by have := h.row.1; simpa using this
  obtain ⟨Av, cv, rfl, hnv⟩ := own_slice h.row
  have hg := h.blk.lt
  have hlv9 : lv.length ≤ 900000 := by omega
  have Hvl := Lib.hid hvl; have Hfl := Lib.hid hfl
  clear h hK hS hvl hfl
  go_enter Try.func33, Try.ntmps33
  go_wp2_with fail
  refine (new_any w).mono ?_
  rintro e w1 ⟨rfl, ht, hb⟩
  have k1 := (K.out _ hb).blk.cell 2
  have k2 := (K.out _ hb).blk.cell 3
  simp at k1 k2
  have T1 := Lib.hid (ht 0); have B1 := Lib.hid hb
  clear ht hb
  go_wp2_with fail
  refine (all_any 0 T r mem w1 (K.out _ B1.out).tab (by omega)).mono ?_
  rintro e w2 ⟨u, rfl, hown, hb⟩
  obtain ⟨Am, cm, rfl, hnm⟩ := own_slice hown
  have hr2 := SlR.own hown
  have B2 := Lib.hid (B1.out.trans (hb.mono B1.out.size)); have T2 := Lib.hid (T1.out.below hb)
  have hl1 : w.heap.size < w1.heap.size := by obtain ⟨v, k1, _⟩ := T1.out; exact k1.lt
  have hap : 0 < mem.length → ∀ ad, Am = some ad → ad.block ≠ w.heap.size ∧ some ad.block ≠ (none : Option Nat) := fun _ ad h => ⟨by have := (hown.lt ad.block (by rw [h]; rfl)).1; omega, by simp⟩
  clear hown hb k1 k2
  go_wp2_with fail
  refine (add_any 0 w.heap.size none [] mem Am mem.length cm w2 T2.out (by simp [SortedE]) hr2 hap (Nat.zero_le _) (by simp; omega)).mono ?_
  rintro e w3 ⟨rfl, r3, ht3, hst⟩
  have B3 : Hid (Below w.heap.size w w3) := Lib.hid (((Chg.of_below B2.out).trans hst.chg (S := fun _ => False) (fun k hk hT => by rcases hT with h | h; omega; cases h)).below (fun k hk => hk.elim) (Nat.le_refl _))
  have R3 : Hid (∀ b, r3 = some b → w.heap.size ≤ b) := Lib.hid (fun b hb => by
    rcases hst.row with h | ⟨gg, h, h2⟩
    · rw [h] at hb; cases hb
    · rw [h] at hb; injection hb with hb; have := B2.out.size; omega)
  have T3 := Lib.hid ht3
  have k3 := (K.out _ B3.out).blk.cell 3
  simp at k3
  clear ht3 hst hr2 hap
  go_wp2_with fail
  go_loopw [24] (fun i wr => ∃ (k : Nat) (r1 : Option Nat), k ≤ lv.length ∧ i = .int .i64 (k : Int) ∧ TabIs wr 0 w.heap.size r1 (addsE [] (mem ++ (lv.take k).flatten.flatten)) ∧ (∀ b, r1 = some b → w.heap.size ≤ b) ∧ Below w.heap.size w wr) (fun i _ => lv.length - (intOf i).toNat)
  case atStart => exact ⟨0, r3, Nat.zero_le _, rfl, by simpa using T3.out, R3.out, B3.out⟩
  case round =>
    obtain ⟨k, r1, hk, rfl, ht, hr1, hb⟩ := hrel
    have hk0 : (0 : Int) ≤ (k : Int) := by omega
    have TT := Lib.hid ht; have RR := Lib.hid hr1; have BB := Lib.hid hb
    clear ht hr1 hb
    by_cases hlt : k < lv.length
    · obtain ⟨ad, u, rfl, had, hu, hcu⟩ := (SlR.own (K.out _ BB.out).row).get hlt
      have hk1 : (k : Int) < (lv.length : Int) := by omega
      obtain ⟨l, hl⟩ : ∃ l, lv[k]? = some l := ⟨_, List.getElem?_eq_getElem hlt⟩
      obtain ⟨⟨us, hou, hus⟩, hsb⟩ := H.out.lev k u l hu hl
      obtain ⟨Al, cl, rfl, hnl⟩ := own_slice hou
      have KL : Hid (∀ wx, Below w.heap.size w wx → wx.ownsRow 0 32 1 (.slice Al l.length cl) l.length us ∧ ∀ (j : Nat) (u : Value) (t : Tb), us[j]? = some u → l[j]? = some t → wx.ownsRow 0 27 3 u t.length (enVs t)) := Lib.hid (fun wx hb => ⟨own_below hou hb (fun q hq => (hou.lt q hq).2), fun j u t h1 h2 => own_below (hus j u t h1 h2).1 hb (fun q hq => ((hus j u t h1 h2).1.lt q hq).2)⟩)
      have Hus := Lib.hid hus; have Hl := Lib.hid hl
      have hul : us.length = l.length := by have := hou.1; simpa using this
      have hl9 : l.length ≤ 900000 := by have h1 := level_few hl; have h2 := flat_len l; omega
      clear hus hou hsb hu hl
      go_wp2_with fail
      go_loopw [30] (fun i wq => ∃ (j : Nat) (r2 : Option Nat), j ≤ l.length ∧ i = .int .i64 (j : Int) ∧ TabIs wq 0 w.heap.size r2 (addsE [] (mem ++ (lv.take k).flatten.flatten ++ (l.take j).flatten)) ∧ (∀ b, r2 = some b → w.heap.size ≤ b) ∧ Below w.heap.size w wq) (fun i _ => l.length - (intOf i).toNat)
      case atStart => exact ⟨0, r1, Nat.zero_le _, rfl, by simpa using TT.out, RR.out, BB.out⟩
      case round =>
        obtain ⟨j, r2, hj, rfl, ht, hr2, hb⟩ := hrel
        have hj0 : (0 : Int) ≤ (j : Int) := by omega
        have T4 := Lib.hid ht; have R4 := Lib.hid hr2; have B4 := Lib.hid hb
        clear ht hr2 hb
        by_cases hjl : j < l.length
        · obtain ⟨ad2, u2, rfl, had2, hu2, hcu2⟩ := (SlR.own (KL.out _ B4.out).1).get hjl
          have hj1 : (j : Int) < (l.length : Int) := by omega
          obtain ⟨t, ht⟩ : ∃ t, l[j]? = some t := ⟨_, List.getElem?_eq_getElem hjl⟩
          have hot := (KL.out _ B4.out).2 j u2 t hu2 ht
          have hsb2 := (Hus.out j u2 t hu2 ht).2
          obtain ⟨At, ct, rfl, hnt⟩ := own_slice hot
          have hap : 0 < t.length → ∀ ad, At = some ad → ad.block ≠ w.heap.size ∧ some ad.block ≠ r2 := fun _ ad h => by
            have h1 := HS.out _ (hsb2 ad.block (by rw [h]; rfl)).1
            exact ⟨by omega, fun e => by have := R4.out _ e.symm; omega⟩
          have hpl := part_len Hl.out ht
          have hal := (adds_le [] (mem ++ (lv.take k).flatten.flatten ++ (l.take j).flatten)).2
          have hfl := Hfl.out
          simp only [List.length_append, List.length_nil] at hal
          have hadd := add_any 0 w.heap.size r2 _ t At t.length ct wr T4.out (adds_sorted (by simp [SortedE]) _) (SlR.own hot) hap (Nat.zero_le _) (by omega)
          rw [← adds_app, List.append_assoc _ _ t, ← take_nextL ht] at hadd
          have Hadd := Lib.hid hadd
          clear hadd hap hot hsb2 hpl hal hfl hu2 ht
          go_wp2_with fail
          refine Hadd.out.mono ?_
          rintro e w5 ⟨rfl, r5, ht5, hst⟩
          have B5 : Hid (Below w.heap.size w w5) := Lib.hid (((Chg.of_below B4.out).trans hst.chg (S := fun _ => False) (fun k hk hT => by
            rcases hT with h | h
            · omega
            · have := R4.out _ h.symm; omega)).below (fun k hk => hk.elim) (Nat.le_refl _))
          have R5 : Hid (∀ b, r5 = some b → w.heap.size ≤ b) := Lib.hid (fun b hb => by
            rcases hst.row with h | ⟨gg, h, h2⟩
            · rw [h] at hb; exact R4.out b hb
            · rw [h] at hb; injection hb with hb; have := B4.out.size; omega)
          have T5 := Lib.hid ht5
          clear ht5 hst
          go_wp2_with fail
          go_roundw
          case rel => exact ⟨j + 1, r5, by omega, by go_num, T5.out, R5.out, B5.out⟩
          case measure => simp [intOf]; omega
        · obtain rfl : j = l.length := by omega
          have djj : decide (l.length < l.length) = false := by simp
          have T6 : Hid (TabIs wr 0 w.heap.size r2 (addsE [] (mem ++ (lv.take (k + 1)).flatten.flatten))) := Lib.hid (by have := T4.out; rw [List.take_of_length_le (Nat.le_refl _), List.append_assoc, ← take_next Hl.out] at this; exact this)
          clear hjl
          go_wp2_with fail
          go_roundw
          case rel => exact ⟨k + 1, r2, by omega, by go_num, T6.out, R4.out, B4.out⟩
          case measure => simp [intOf]; omega
    · obtain rfl : k = lv.length := by omega
      have dkk : decide (lv.length < lv.length) = false := by simp
      have T6 : Hid (TabIs wr 0 w.heap.size r1 (allX mem lv)) := Lib.hid (by have := TT.out; rw [List.take_of_length_le (Nat.le_refl _)] at this; exact this)
      clear hlt
      go_wp2_with fail
      go_ret
      exact ⟨r1, rfl, T6.out, RR.out, BB.out⟩
end Go.Proofs.Ytfjilngofdahgaa

/- chapter 14: levels made longer, a level set anew: laws. -/
namespace Go.Proofs.Ytfjilngofdahgaa
open Go.RowKit
set_option maxHeartbeats 1000000
set_option maxRecDepth 100000
set_option linter.unusedVariables false

theorem blk_two {w : World} {a b : Nat} {t t' : TypeId} {cs cs' : Array Value} (h : BlkIs w a t cs) (h' : BlkIs w b t' cs') (hne : t ≠ t') : a ≠ b := by
  rintro rfl
  unfold BlkIs at h h'
  rw [h] at h'
  injection h' with h'
  injection h' with _ h3
  exact hne h3
section
variable {w w1 w2 : World} {S : Nat → Prop} {g T : Nat} {room most : Int} {mem : Tb} {lv : List Lv} {r : Option Nat} {v : Value} {vs : List Value}
theorem IxAt.dTg (h : IxAt w S g room most (mem, lv) T r v vs) : T ≠ g := by
  obtain ⟨vt, k1, _⟩ := h.tab
  exact blk_two k1 h.blk (by decide)
theorem IxAt.drg (h : IxAt w S g room most (mem, lv) T r v vs) : r ≠ some g := by
  obtain ⟨vt, k1, k2, k3, _⟩ := h.tab
  rw [← k3]
  exact own_ne_blk k2 h.blk (by decide)
theorem IxAt.dvg (h : IxAt w S g room most (mem, lv) T r v vs) : v.ownBlock ≠ some g := own_ne_blk h.row h.blk (by decide)
theorem IxAt.dvT (h : IxAt w S g room most (mem, lv) T r v vs) : v.ownBlock ≠ some T := by
  obtain ⟨vt, k1, _⟩ := h.tab
  exact own_ne_blk h.row k1 (by decide)
theorem IxAt.dvr (h : IxAt w S g room most (mem, lv) T r v vs) {b : Nat} (hb : v.ownBlock = some b) : r ≠ some b := by
  obtain ⟨vt, k1, k2, k3, _⟩ := h.tab
  rw [← k3]
  exact own_type h.row k2 (by decide) hb
theorem LvIs.dblk {t : TypeId} {cs : Array Value} {x : Value} {l : Lv} {b : Nat} (h : LvIs w S r x l) (hb : BlkIs w b t cs) (hne : 32 ≠ t) : x.ownBlock ≠ some b := by
  obtain ⟨us, ho, _⟩ := h
  exact own_ne_blk ho hb hne
theorem LvIs.down {x y : Value} {l : Lv} {b base n c : Nat} {e : TypeId} {xs : List Value} (h : LvIs w S r x l) (hy : w.ownsRow base e c y n xs) (hne : 32 ≠ e) (hb : x.ownBlock = some b) : y.ownBlock ≠ some b := by
  obtain ⟨us, ho, _⟩ := h
  exact own_type ho hy hne hb
theorem LvIs.more {S' : Nat → Prop} {x : Value} {l : Lv} (h : LvIs w S r x l) (hS : ∀ b, S b → S' b) : LvIs w S' r x l := by
  obtain ⟨us, ho, hu⟩ := h
  exact ⟨us, ho, fun j u t h1 h2 => ⟨(hu j u t h1 h2).1, fun b hb => ⟨hS b ((hu j u t h1 h2).2 b hb).1, ((hu j u t h1 h2).2 b hb).2⟩⟩⟩
/-- a level under a change of a level's row, of the row of levels, of g -/
theorem LvIs.keep {x : Value} {l : Lv} {C : Nat → Prop} (h : LvIs w S r x l) (hc : Chg C w w2) (hx : ∀ b, x.ownBlock = some b → ¬ C b)
    (hC : ∀ b, C b → (∃ t cs, BlkIs w b t cs ∧ 27 ≠ t) ∨ (∃ y e c n xs, w.ownsRow 0 e c y n xs ∧ 27 ≠ e ∧ y.ownBlock = some b)) : LvIs w2 S r x l := by
  obtain ⟨us, ho, hu⟩ := h
  refine ⟨us, own_chg ho hc hx, fun j u t h1 h2 => ?_⟩
  obtain ⟨h3, h4⟩ := hu j u t h1 h2
  refine ⟨own_chg h3 hc (fun b hb hCb => ?_), h4⟩
  rcases hC b hCb with ⟨t', cs, k1, k2⟩ | ⟨y, e, c, n, xs, k1, k2, k3⟩
  · exact own_ne_blk h3 k1 k2 hb
  · exact own_type h3 k1 k2 hb k3
theorem LvIs.none (w : World) (S : Nat → Prop) (r : Option Nat) : LvIs w S r (.slice none 0 0) [] := ⟨[], World.ownsRow_nil _ _ _ _, fun j u t h => by simp at h⟩

theorem IxAt.ext (h : IxAt w S g room most (mem, lv) T r v vs) (hb : Below w.heap.size w w1) (v2 : Value) (ho : w2.ownsRow 0 57 1 v2 (lv.length + 1) (vs ++ [.slice none 0 0])) (hg : w1.grownBy w2 v.ownBlock)
    (hat : ∀ b, v2.ownBlock = some b → v.ownBlock = some b ∨ w.heap.size ≤ b) :
    IxAt (w2.setCell ⟨g, 3, none⟩ v2) (fun b => S b ∨ v2.ownBlock = some b) g room most (mem, lv ++ [[]]) T r v2 (vs ++ [.slice none 0 0]) ∧ Chg S w (w2.setCell ⟨g, 3, none⟩ v2) := by
  have hc : Chg (fun b => b = g ∨ v.ownBlock = some b) w (w2.setCell ⟨g, 3, none⟩ v2) := ((Chg.of_below hb).grown hg (fun k hk _ => .inr hk)).set (a := ⟨g, 3, none⟩) (fun _ => .inl rfl) v2
  have hvl : vs.length = lv.length := by have := h.row.1; simpa using this
  have hblk2 : BlkIs w2 g 55 _ := (h.blk.below hb h.blk.lt).grown hg (fun e => h.dvg e.symm)
  have hC : ∀ b, (b = g ∨ v.ownBlock = some b) → (∃ t cs, BlkIs w b t cs ∧ 27 ≠ t) ∨ (∃ y e c n xs, w.ownsRow 0 e c y n xs ∧ 27 ≠ e ∧ y.ownBlock = some b) := fun b hb => by
    rcases hb with rfl | hb
    · exact .inl ⟨_, _, h.blk, by decide⟩
    · exact .inr ⟨_, _, _, _, _, h.row, by decide, hb⟩
  have hsz := hc.size
  refine ⟨⟨hblk2.put 3 v2, h.tab.chg hc (fun e => ?_) (fun b hb e => ?_), ?_, fun i v' l h1 h2 => ?_, fun i j v1 v2' b h1 h2 h3 h4 => ?_, .inl h.sg, .inl h.sT, fun b hb => .inl (h.sr b hb), fun b hb => .inr hb, fun b hb => ?_⟩, hc.more (fun k _ hk => ?_)⟩
  · rcases e with e | e
    · exact h.dTg e
    · exact h.dvT e
  · rcases e with e | e
    · subst e; exact h.drg hb
    · exact h.dvr e hb
  · have e0 : (lv ++ [[]]).length = lv.length + 1 := by simp
    show World.ownsRow _ _ _ _ _ (lv ++ [[]]).length _
    rw [e0]
    exact own_far (a := ⟨g, 3, none⟩) ho (own_ne_blk ho hblk2 (by decide)) v2
  · dsimp only at h2
    rcases Nat.lt_or_ge i lv.length with hi | hi
    · rw [List.getElem?_append_left (by omega)] at h1
      rw [List.getElem?_append_left hi] at h2
      obtain ⟨k1, k2⟩ := h.lev i v' l h1 h2
      refine ⟨(k1.keep hc (fun b hb e => ?_) hC).more (fun b hb => .inl hb), fun b hb => .inl (k2 b hb)⟩
      rcases e with e | e
      · subst e; exact k1.dblk h.blk (by decide) hb
      · exact k1.down h.row (by decide) hb e
    · rw [List.getElem?_append_right (by omega)] at h1
      rw [List.getElem?_append_right hi] at h2
      have e1 : v' = .slice none 0 0 := by
        rcases Nat.eq_zero_or_pos (i - vs.length) with h0 | h0
        · rw [h0] at h1; simpa using h1.symm
        · rw [List.getElem?_eq_none (by simp; omega)] at h1; cases h1
      have e2 : l = [] := by
        rcases Nat.eq_zero_or_pos (i - lv.length) with h0 | h0
        · rw [h0] at h2; simpa using h2.symm
        · rw [List.getElem?_eq_none (by simp; omega)] at h2; cases h2
      subst e1 e2
      exact ⟨LvIs.none _ _ _, fun b hb => by cases hb⟩
  · have key : ∀ (i : Nat) (x : Value) (b : Nat), (vs ++ [Value.slice none 0 0])[i]? = some x → x.ownBlock = some b → vs[i]? = some x := fun i x b h1 h3 => by
      rcases Nat.lt_or_ge i vs.length with hi | hi
      · rwa [List.getElem?_append_left hi] at h1
      · rw [List.getElem?_append_right hi] at h1
        rcases Nat.eq_zero_or_pos (i - vs.length) with h0 | h0
        · rw [h0] at h1
          have : x = .slice none 0 0 := by simpa using h1.symm
          subst this; cases h3
        · rw [List.getElem?_eq_none (by simp; omega)] at h1; cases h1
    exact h.two i j v1 v2' b (key i v1 b h1 h3) (key j v2' b h2 h4) h3 h4
  · rcases hb with hb | hb
    · exact Nat.lt_of_lt_of_le (h.lt b hb) hsz
    · have := (ho.lt b hb).2
      simpa [World.setCell] using this
  · rcases hk with rfl | hk
    · exact h.sg
    · exact h.sv k hk

theorem IxAt.level {o c k : Nat} {vk : Value} (h : IxAt w S g room most (mem, lv) T r (.slice (some ⟨o, 0, none⟩) lv.length c) vs) (hv : vs[k]? = some vk) (hc0 : Chg (fun b => vk.ownBlock = some b) w w2) (S4 : Nat → Prop) (hS4 : ∀ b, S b → S4 b) (hlt : ∀ b, S4 b → b < w2.heap.size)
    (v4 : Value) (l4 : Lv) (hL : LvIs w2 S4 r v4 l4) (hs4 : ∀ b, v4.ownBlock = some b → S4 b) (hd : ∀ b, v4.ownBlock = some b → vk.ownBlock = some b ∨ w.heap.size ≤ b) :
    IxAt (w2.setCell ⟨o, k, none⟩ v4) S4 g room most (mem, lv.set k l4) T r (.slice (some ⟨o, 0, none⟩) lv.length c) (vs.set k v4) ∧ Chg S w (w2.setCell ⟨o, k, none⟩ v4) := by
  have hvl : vs.length = lv.length := by have := h.row.1; simpa using this
  have hk : k < lv.length := by rw [← hvl]; exact (List.getElem?_eq_some_iff.1 hv).1
  obtain ⟨hL0, hsk⟩ := h.lev k vk _ hv (List.getElem?_eq_getElem hk)
  have hob : (Value.slice (some ⟨o, 0, none⟩) lv.length c).ownBlock = some o := rfl
  have hc : Chg (fun b => b = o ∨ vk.ownBlock = some b) w (w2.setCell ⟨o, k, none⟩ v4) := Chg.set (S := fun b => b = o ∨ vk.ownBlock = some b) (hc0.more (fun k _ hk => Or.inr hk)) (a := ⟨o, k, none⟩) (fun _ => .inl rfl) v4
  have hC : ∀ b, (b = o ∨ vk.ownBlock = some b) → (∃ t cs, BlkIs w b t cs ∧ 27 ≠ t) ∨ (∃ y e c n xs, w.ownsRow 0 e c y n xs ∧ 27 ≠ e ∧ y.ownBlock = some b) := fun b hb => by
    rcases hb with rfl | hb
    · exact .inr ⟨_, _, _, _, _, h.row, by decide, hob⟩
    · obtain ⟨us, ho, _⟩ := hL0
      exact .inr ⟨_, _, _, _, _, ho, by decide, hb⟩
  have hrow2 : w2.ownsRow 0 57 1 (.slice (some ⟨o, 0, none⟩) lv.length c) lv.length vs := own_chg h.row hc0 (fun b hb e => hL0.down h.row (by decide) e hb)
  have hsz := hc.size
  have hgo : g ≠ o := fun e => h.dvg (by rw [e]; exact hob)
  have hkg : vk.ownBlock ≠ some g := hL0.dblk h.blk (by decide)
  refine ⟨⟨h.blk.chg hc (fun e => ?_), h.tab.chg hc (fun e => ?_) (fun b hb e => ?_), ?_, fun i v' l h1 h2 => ?_, fun i j v1 v2' b h1 h2 h3 h4 => ?_, hS4 _ h.sg, hS4 _ h.sT, fun b hb => hS4 _ (h.sr b hb), fun b hb => hS4 _ (h.sv b hb), fun b hb => Nat.lt_of_lt_of_le (hlt b hb) (by simp [World.setCell])⟩, hc.more (fun k _ hk => ?_)⟩
  · rcases e with e | e
    · exact hgo e
    · exact hkg e
  · rcases e with e | e
    · exact h.dvT (by rw [e]; exact hob)
    · obtain ⟨vt, k1, _⟩ := h.tab
      exact hL0.dblk k1 (by decide) e
  · rcases e with e | e
    · subst e; exact h.dvr hob hb
    · obtain ⟨vt, k1, k2, k3, _⟩ := h.tab
      exact hL0.down k2 (by decide) e (k3.trans hb)
  · have e0 : (lv.set k l4).length = lv.length := by simp
    show World.ownsRow _ _ _ _ _ (lv.set k l4).length _
    rw [e0]
    exact (hrow2.stored k v4).1
  · dsimp only at h2
    by_cases hik : i = k
    · subst hik
      rw [List.getElem?_set_self (by omega)] at h1 h2
      injection h1 with h1; injection h2 with h2
      subst h1 h2
      obtain ⟨us, ho, hu⟩ := hL
      refine ⟨⟨us, own_far (a := ⟨o, i, none⟩) ho (fun e => own_type ho hrow2 (by decide) e hob) v4, fun j u t k1 k2 => ?_⟩, hs4⟩
      obtain ⟨k3, k4⟩ := hu j u t k1 k2
      exact ⟨own_far (a := ⟨o, i, none⟩) k3 (fun e => own_type k3 hrow2 (by decide) e hob) v4, k4⟩
    · rw [List.getElem?_set_ne (fun e => hik e.symm)] at h1 h2
      obtain ⟨k1, k2⟩ := h.lev i v' l h1 h2
      refine ⟨(k1.keep hc (fun b hb e => ?_) hC).more hS4, fun b hb => hS4 b (k2 b hb)⟩
      rcases e with e | e
      · subst e; exact k1.down h.row (by decide) hb hob
      · exact hik (h.two i k v' vk b h1 hv hb e)
  · by_cases hik : i = k
    · by_cases hjk : j = k
      · rw [hik, hjk]
      · subst hik
        rw [List.getElem?_set_self (by omega)] at h1
        rw [List.getElem?_set_ne (fun e => hjk e.symm)] at h2
        injection h1 with h1
        subst h1
        rcases hd b h3 with h5 | h5
        · exact h.two i j vk v2' b hv h2 h5 h4
        · have := h.lt b ((h.lev j v2' _ h2 (List.getElem?_eq_getElem (by rw [← hvl]; exact (List.getElem?_eq_some_iff.1 h2).1))).2 b h4)
          omega
    · by_cases hjk : j = k
      · subst hjk
        rw [List.getElem?_set_self (by omega)] at h2
        rw [List.getElem?_set_ne (fun e => hik e.symm)] at h1
        injection h2 with h2
        subst h2
        rcases hd b h4 with h5 | h5
        · exact h.two i j v1 vk b h1 hv h3 h5
        · have := h.lt b ((h.lev i v1 _ h1 (List.getElem?_eq_getElem (by rw [← hvl]; exact (List.getElem?_eq_some_iff.1 h1).1))).2 b h3)
          omega
      · rw [List.getElem?_set_ne (fun e => hik e.symm)] at h1
        rw [List.getElem?_set_ne (fun e => hjk e.symm)] at h2
        exact h.two i j v1 v2' b h1 h2 h3 h4
  · rcases hk with rfl | hk
    · exact h.sv _ hob
    · exact hsk k hk
end
end Go.Proofs.Ytfjilngofdahgaa

/- chapter 14: put. -/
namespace Go.Proofs.Ytfjilngofdahgaa
open Go.RowKit
set_option maxHeartbeats 4000000
set_option maxRecDepth 100000
set_option linter.unusedVariables false

theorem info_lv : (Try.prog.info? 57).map (fun i => (i.zero, i.size, i.bytes)) = some (some (.slice none 0 0), 1, 24) := by kernel_rfl
theorem info_tb : (Try.prog.info? 32).map (fun i => (i.zero, i.size, i.bytes)) = some (some (.slice none 0 0), 1, 24) := by kernel_rfl
def lvN (g : Nat) (w : World) : Nat := match w.cell? ⟨g, 3, none⟩ with | some (.slice _ n _) => n | _ => 0
theorem lvN_at {w : World} {S : Nat → Prop} {g T : Nat} {room most : Int} {mem : Tb} {lv : List Lv} {r : Option Nat} {v : Value} {vs : List Value} (h : IxAt w S g room most (mem, lv) T r v vs) : lvN g w = lv.length := by
  obtain ⟨A, c, rfl, _⟩ := own_slice h.row
  have := h.blk.cell 3
  simp at this
  unfold lvN
  rw [this]
theorem own_row {w : World} {base e c n : Nat} {v : Value} {xs : List Value} (h : w.ownsRow base e c v n xs) (hn : 0 < n) : ∃ o cap, v = .slice (some ⟨o, 0, none⟩) n cap ∧ n ≤ cap := by
  rcases h.2 with ⟨_, h0⟩ | ⟨o, cap, cur, hv, _, _, hc, _⟩
  · omega
  · exact ⟨o, cap, hv, hc⟩

theorem own_free {w : World} {base e c n cap o : Nat} {xs : List Value} (h : w.ownsRow base e c (.slice (some ⟨o, 0, none⟩) n cap) n xs) (k : Nat) : w.frozen? ⟨o, k, none⟩ = false := by
  obtain ⟨_, _, _, cur, hcur, _⟩ := own_block h
  simp [World.frozen?, hcur]
theorem put_in {lv : List Lv} {k : Nat} {l : Lv} {t : Tb} (h : lv[k]? = some l) : putX lv k t = lv.set k (l ++ [t]) := by
  obtain ⟨hk, hx⟩ := List.getElem?_eq_some_iff.1 h
  unfold putX
  rw [if_pos hk]
  apply List.ext_getElem?
  intro i
  rw [List.getElem?_modify, List.getElem?_set]
  by_cases hi : k = i
  · subst hi; simp [hk, hx]
  · simp [hi]
theorem put_new {lv : List Lv} {t : Tb} : putX lv lv.length t = (lv ++ [[]]).set lv.length ([] ++ [t]) := by
  unfold putX
  rw [if_neg (by omega)]
  simp

theorem putX_any (S : Nat → Prop) (g : Nat) (room most : Int) (mem : Tb) (lv : List Lv) (k : Nat) (u : Value) (t : Tb) (w : World) (h : IxIs w S g room most (mem, lv)) (hw : wLs lv ≤ 900000) (hk : k ≤ lv.length)
    (hu : w.ownsRow 0 27 3 u t.length (enVs t)) (hun : ∀ b, u.ownBlock = some b → ¬ S b) :
    Calls Try.prog 37 #[.pointer (some ⟨g, 0, none⟩), .int .i64 (k : Int), u] w fun e w' => e = .returned (.tuple #[]) ∧ ∃ S', IxIs w' S' g room most (mem, putX lv k t) ∧ Chg S w w' ∧ ∀ b, S' b → S b ∨ u.ownBlock = some b ∨ w.heap.size ≤ b := by
  obtain ⟨i0, hi0, hz0, hz1, hz2⟩ := info_parts info_lv
  obtain ⟨j0, hj0, hy0, hy1, hy2⟩ := info_parts info_tb
  have hfl := flats_len lv
  have hlv9 : lv.length ≤ 900000 := by omega
  have hlev : ∀ (i : Nat) (l : Lv), lv[i]? = some l → l.length ≤ 900000 := fun i l hl => by have h1 := level_few hl; have h2 := flat_len l; omega
  obtain ⟨Au, cu, rfl, hnu⟩ := own_slice hu
  have H := Lib.hid h; have Hu := Lib.hid hu; have Hun := Lib.hid hun; have Hlev := Lib.hid hlev
  clear h hu hun hlev hfl
  have hk0 : (0 : Int) ≤ (k : Int) := by omega
  go_enter Try.func37, Try.ntmps37
  go_wp2_with fail
  go_loopw [] (fun wr => ∃ S1 lv1, IxIs wr S1 g room most (mem, lv1) ∧ Chg S w wr ∧ (∀ b, S1 b → S b ∨ w.heap.size ≤ b) ∧ (lv1 = lv ∨ (k = lv.length ∧ lv1 = lv ++ [[]]))) (fun wr => k + 1 - lvN g wr)
  case atStart => exact ⟨S, lv, H.out, Chg.refl _ _, fun b hb => .inl hb, .inl rfl⟩
  case round =>
    obtain ⟨S1, lv1, ⟨T, r, v, vs, hi⟩, hc, hs1, hor⟩ := hrel
    have hvl : vs.length = lv1.length := by have := hi.row.1; simpa using this
    have hl1 : lv1.length ≤ 900001 := by
      rcases hor with rfl | ⟨_, rfl⟩
      · omega
      · simp; omega
    have k3 := hi.blk.cell 3
    simp at k3
    have hgl := hi.blk.lt
    have hlN := lvN_at hi
    have HI := Lib.hid hi; have HC := Lib.hid hc; have HS1 := Lib.hid hs1; have Hor := Lib.hid hor; have HlN := Lib.hid hlN
    clear hi hc hs1 hor hlN
    by_cases hgo : lv1.length ≤ k
    · obtain ⟨Av, cv, rfl, hnv⟩ := own_slice HI.out.row
      dsimp only at HI k3
      have hor := Hor.out
      have hkl : k = lv.length ∧ lv1 = lv := by
        rcases hor with rfl | ⟨h1, rfl⟩
        · exact ⟨by omega, rfl⟩
        · simp at hgo; omega
      obtain ⟨hkk, rfl⟩ := hkl
      have d1 : (lv1.length : Int) ≤ (k : Int) := by omega
      clear hor Hor
      go_wp2_with (at_builtin; refine wpList_append_lies _ rfl (.tmp 17) (.tmp 18) _ rfl 0 57 i0 _ 1 24 Try.underlying53 hi0 hz0 hz1 hz2 rfl (by omega) (.slice Av lv1.length cv) lv1.length vs rfl (HI.out.row.alloc _) ⟨wr.heap.size, 0, none⟩ 1 1 [.slice none 0 0] rfl rfl (World.news_of_block (cs := #[.slice none 0 0]) (heap_alloc_new wr _)) (by simp [Value.oneCell']) (by omega) (by simp only [maxLen]; omega) (by omega) (by simp) (wr.heap.size + 1) (by simp) ?_; intro g3 cp w3 hown3 hgrow hat3 hlt3; have hb1 : Below wr.heap.size wr (wr.alloc (.cells #[.slice none 0 0] 57)) := (Below.refl _ _).alloc (Nat.le_refl _) _; have hblk := (HI.out.blk.below hb1 HI.out.blk.lt).grown hgrow (fun e => HI.out.dvg e.symm); have q3 := hblk.cell 3; have q3f := hblk.free 3; simp at q3; have HB1 := Lib.hid hb1; have H3 := Lib.hid hown3; have HG := Lib.hid hgrow; have HA3 := Lib.hid hat3; clear hown3 hgrow hat3 hblk hb1)
      have hext := HI.out.ext HB1.out (.slice (some ⟨g3, 0, none⟩) (lv1.length + 1) cp) H3.out HG.out (fun b hb => by
        have e : g3 = b := by simpa [Value.ownBlock] using hb
        rcases HA3.out with h | h
        · exact .inl (by rw [← e]; exact h)
        · exact .inr (by omega))
      obtain ⟨he1, he2⟩ := hext
      have HE1 := Lib.hid he1; have HE2 := Lib.hid he2
      clear he1 he2
      go_roundw
      case rel =>
        refine ⟨_, lv1 ++ [[]], ⟨T, r, _, _, HE1.out⟩, HC.out.trans HE2.out (fun b hb hs => ?_), fun b hb => ?_, (by first | exact .inr ⟨hkk, rfl⟩ | exact .inr hkk | simp [hkk])⟩
        · rcases HS1.out b hs with h | h
          · exact h
          · omega
        · rcases hb with hb | hb
          · exact HS1.out b hb
          · have e : g3 = b := by simpa [Value.ownBlock] using hb
            rcases HA3.out with h | h
            · exact HS1.out b (HI.out.sv b (by rw [← e]; exact h))
            · have := HC.out.size
              exact .inr (by omega)
      case measure =>
        have h1 := lvN_at HE1.out
        have h2 := HlN.out
        simp only [List.length_append, List.length_cons, List.length_nil] at h1
        rw [h1, h2]
        omega
    · have d1 : decide ((lv1.length : Int) ≤ (k : Int)) = false := decide_eq_false (by omega)
      have hk1 : k < lv1.length := by omega
      have hk2 : (k : Int) < (lv1.length : Int) := by omega
      obtain ⟨o, cap, rfl, hcap⟩ := own_row HI.out.row (by dsimp only; omega)
      dsimp only at HI k3 hcap
      obtain ⟨ad, vk, hA, had, hvk, hcv⟩ := (SlR.own HI.out.row).get hk1
      injection hA with hA
      subst hA
      obtain ⟨l, hl⟩ : ∃ l, lv1[k]? = some l := ⟨_, List.getElem?_eq_getElem hk1⟩
      obtain ⟨⟨us, hou, hus⟩, hsk⟩ := HI.out.lev k vk l hvk hl
      obtain ⟨Ak, ck, rfl, hnk⟩ := own_slice hou
      have hl9 : l.length ≤ 900000 := by
        rcases Hor.out with rfl | ⟨_, rfl⟩
        · exact Hlev.out k l hl
        · rcases Nat.lt_or_ge k lv.length with h1 | h1
          · rw [List.getElem?_append_left h1] at hl; exact Hlev.out k l hl
          · rw [List.getElem?_append_right h1] at hl
            rcases Nat.eq_zero_or_pos (k - lv.length) with h0 | h0
            · rw [h0] at hl; have : l = [] := by simpa using hl.symm
              subst this; simp
            · rw [List.getElem?_eq_none (by simp; omega)] at hl; cases hl
      have had0 : (⟨o, 0, none⟩ : Addr).add k = ⟨o, k, none⟩ := by rw [Addr.add_lit, Nat.zero_add]
      rw [had0] at hcv
      have ho1 : o < wr.heap.size := (HI.out.row.lt o rfl).2
      have hbA : Below wr.heap.size wr (wr.alloc (.cells #[.slice Au t.length cu] 32)) := (Below.refl _ _).alloc (Nat.le_refl _) _
      have k3a := (hbA.cell (p := ⟨g, 3, none⟩) hgl).trans k3
      have hcva := (hbA.cell (p := ⟨o, k, none⟩) ho1).trans hcv
      have Hou := Lib.hid hou; have Hvk := Lib.hid hvk; have Hl := Lib.hid hl; have Hus := Lib.hid hus; have HbA := Lib.hid hbA
      have hne1 : (Value.slice Ak l.length ck).ownBlock ≠ some g := own_ne_blk hou HI.out.blk (by decide)
      have hne2 : (Value.slice Ak l.length ck).ownBlock ≠ some o := fun e => own_type hou HI.out.row (by decide) e rfl
      clear hou hvk hl hus hsk hbA had
      go_wp2_with fail
      go_region_law (first
        | (refine step_append_lies _ (by rfl) (.tmp 33) (.tmp 35) _ (by rfl) 0 32 j0 _ 1 24 Try.underlying57 hj0 hy0 hy1 hy2 rfl (by omega) (.slice Ak l.length ck) l.length us (by simp [Act.eval, Act.put]) (own_drew (Hou.out.alloc _)) ⟨wr.heap.size, 0, none⟩ 1 1 [.slice Au t.length cu] (by simp [Act.eval, Act.put]) (by rfl) (World.news_of_block (cs := #[.slice Au t.length cu]) (heap_alloc_new wr _)) (by simp [Value.oneCell']) (by omega) (by simp only [maxLen]; omega) (by omega) (by simp) _ rfl ?_; intro g4 c4 w4 hown4 hgrow4 hat4 hlt4; have H4 := Lib.hid hown4; have HG4 := Lib.hid hgrow4; have HA4 := Lib.hid hat4; have k3b := HG4.out.cell (a := ⟨g, 3, none⟩) k3a (fun e => hne1 e.symm); have hcvb := HG4.out.cell (a := ⟨o, k, none⟩) hcva (fun e => hne2 e.symm); have HC4 : Hid (Chg (fun b => (Value.slice Ak l.length ck).ownBlock = some b) wr w4) := Lib.hid ((Chg.of_below HbA.out).drew.grown HG4.out (fun q hq _ => hq)); have hrow4 := own_chg HI.out.row HC4.out (fun q hq e => hne2 (e.trans hq.symm)); have hfb := own_free hrow4 k; clear hown4 hgrow4 hat4 hrow4))
      all_goals
        have hput : lv1.set k (l ++ [t]) = putX lv k t := by
          rcases Hor.out with rfl | ⟨rfl, rfl⟩
          · exact (put_in Hl.out).symm
          · have hl := Hl.out
            rw [List.getElem?_append_right (Nat.le_refl _), Nat.sub_self] at hl
            have : l = [] := by simpa using hl.symm
            subst this
            exact put_new.symm
        have hu4 : w4.ownsRow 0 27 3 (.slice Au t.length cu) t.length (enVs t) := own_chg (own_chg Hu.out HC.out (fun b hb => Hun.out b hb)) HC4.out (fun q hq e => own_type (own_chg Hu.out HC.out (fun b hb => Hun.out b hb)) Hou.out (by decide) hq e)
        have hlev := HI.out.level Hvk.out HC4.out (fun b => S1 b ∨ g4 = b ∨ (Value.slice Au t.length cu).ownBlock = some b) (fun b hb => .inl hb) (fun b hb => by
            have h0 := HC4.out.size
            rcases hb with hb | hb | hb
            · exact Nat.lt_of_lt_of_le (HI.out.lt b hb) h0
            · omega
            · exact (hu4.lt b hb).2)
          (.slice (some ⟨g4, 0, none⟩) (l.length + 1) c4) (l ++ [t])
          ⟨us ++ [.slice Au t.length cu], by rw [show (l ++ [t]).length = l.length + 1 from by simp]; exact H4.out, fun j u' t' k1 k2 => by
            have hul : us.length = l.length := by have := Hou.out.1; simpa using this
            rcases Nat.lt_or_ge j l.length with hj | hj
            · rw [List.getElem?_append_left (by omega)] at k1
              rw [List.getElem?_append_left hj] at k2
              obtain ⟨k3, k4⟩ := Hus.out j u' t' k1 k2
              exact ⟨own_chg k3 HC4.out (fun q hq e => own_type k3 Hou.out (by decide) hq e), fun b hb => ⟨.inl (k4 b hb).1, (k4 b hb).2⟩⟩
            · rw [List.getElem?_append_right (by omega)] at k1
              rw [List.getElem?_append_right hj] at k2
              rcases Nat.eq_zero_or_pos (j - l.length) with h0 | h0
              · rw [h0] at k2; rw [hul, h0] at k1
                have e1 : u' = .slice Au t.length cu := by simpa using k1.symm
                have e2 : t' = t := by simpa using k2.symm
                subst e1 e2
                refine ⟨hu4, fun b hb => ⟨.inr (.inr hb), fun e => ?_⟩⟩
                have h1 := HI.out.sr b e.symm
                rcases HS1.out b h1 with h2 | h2
                · exact Hun.out b hb h2
                · have := (Hu.out.lt b hb).2; omega
              · rw [List.getElem?_eq_none (by simp; omega)] at k2; cases k2⟩
          (fun b hb => .inr (.inl (by simpa [Value.ownBlock] using hb)))
          (fun b hb => by
            have e : g4 = b := by simpa [Value.ownBlock] using hb
            rcases HA4.out with h | h
            · exact .inl (by rw [← e]; exact h)
            · right; rw [← e, h]; simp)
        obtain ⟨hx1, hx2⟩ := hlev
        rw [hput] at hx1
        have HX1 := Lib.hid hx1; have HX2 := Lib.hid hx2
        clear hx1 hx2 hu4 hput
        go_wp2_with fail
        go_end0
        refine ⟨rfl, _, ⟨T, r, _, _, HX1.out⟩, HC.out.trans HX2.out (fun b hb hs => ?_), fun b hb => ?_⟩
        · rcases HS1.out b hs with h | h
          · exact h
          · omega
        · rcases hb with hb | hb | hb
          · rcases HS1.out b hb with h | h
            · exact .inl h
            · exact .inr (.inr h)
          · have hsz := HC.out.size
            rcases HA4.out with h | h
            · rcases HS1.out b ((HI.out.lev k _ l Hvk.out Hl.out).2 b (by rw [← hb]; exact h)) with h2 | h2
              · exact .inl h2
              · exact .inr (.inr h2)
            · right; right; rw [← hb, h]; simp; omega
          · exact .inr (.inl hb)
end Go.Proofs.Ytfjilngofdahgaa

/- chapter 14: what an index tells: Find, Range, Last, Len, Mem, has. -/
namespace Go.Proofs.Ytfjilngofdahgaa
open Go.RowKit
set_option maxHeartbeats 2000000
set_option maxRecDepth 100000
set_option linter.unusedVariables false

theorem allX_few (s : Tb × List Lv) (hw : wX s ≤ 900000) : (allX s.1 s.2).length ≤ 900000 := by
  have h1 := (adds_le [] (s.1 ++ s.2.flatten.flatten)).2
  have h2 := flats_len s.2
  rw [wX_eq] at hw
  simp only [List.length_append, List.length_nil] at h1
  unfold allX
  omega

theorem lenX_any (S : Nat → Prop) (g : Nat) (room most : Int) (s : Tb × List Lv) (w : World) (h : IxIs w S g room most s) (hw : wX s ≤ 900000) :
    Calls Try.prog 13 #[.pointer (some ⟨g, 0, none⟩)] w fun e w' => e = .returned (.int .i64 ((allX s.1 s.2).length : Int)) ∧ Below w.heap.size w w' := by
  have ht := tabX_any S g room most s w h hw
  have hf := allX_few s hw
  have Ht := Lib.hid ht
  clear h ht
  go_enter Try.func13, Try.ntmps13
  go_wp2_with fail
  refine Ht.out.mono ?_
  rintro e w1 ⟨r1, rfl, ht1, hr1, hb1⟩
  go_wp2_with fail
  refine (len_any 0 w.heap.size r1 _ w1 ht1 (by omega)).mono ?_
  rintro e w2 ⟨rfl, rfl⟩
  go_wp2_with fail
  go_ret
  exact ⟨rfl, hb1⟩
theorem findX_any (S : Nat → Prop) (g : Nat) (room most : Int) (s : Tb × List Lv) (a b : Int) (w : World) (h : IxIs w S g room most s) (hw : wX s ≤ 900000) :
    Calls Try.prog 24 #[.pointer (some ⟨g, 0, none⟩), .int .i64 a, .int .i64 b] w fun e w' => ∃ u, e = .returned u ∧ w'.ownsRow w.heap.size 3 1 u (findE (allX s.1 s.2) a b).length (intVs (findE (allX s.1 s.2) a b)) ∧ Below w.heap.size w w' := by
  have ht := tabX_any S g room most s w h hw
  have hf := allX_few s hw
  have Ht := Lib.hid ht
  clear h ht
  go_enter Try.func24, Try.ntmps24
  go_wp2_with fail
  refine Ht.out.mono ?_
  rintro e w1 ⟨r1, rfl, ht1, hr1, hb1⟩
  go_wp2_with fail
  refine (find_any 0 w.heap.size r1 _ a b w1 ht1 (by omega)).mono ?_
  rintro e w2 ⟨u, rfl, hown, hb2⟩
  go_wp2_with fail
  go_ret
  exact ⟨u, rfl, own_mono hown hb1.size, hb1.trans (hb2.mono hb1.size)⟩
theorem rangeX_any (S : Nat → Prop) (g : Nat) (room most : Int) (s : Tb × List Lv) (a b c : Int) (w : World) (h : IxIs w S g room most s) (hw : wX s ≤ 900000) :
    Calls Try.prog 21 #[.pointer (some ⟨g, 0, none⟩), .int .i64 a, .int .i64 b, .int .i64 c] w fun e w' => ∃ u, e = .returned u ∧ w'.ownsRow w.heap.size 27 3 u (rangeE (allX s.1 s.2) a b c).length (enVs (rangeE (allX s.1 s.2) a b c)) ∧ Below w.heap.size w w' := by
  have ht := tabX_any S g room most s w h hw
  have hf := allX_few s hw
  have Ht := Lib.hid ht
  clear h ht
  go_enter Try.func21, Try.ntmps21
  go_wp2_with fail
  refine Ht.out.mono ?_
  rintro e w1 ⟨r1, rfl, ht1, hr1, hb1⟩
  go_wp2_with fail
  refine (range_any 0 w.heap.size r1 _ a b c w1 ht1 (by omega)).mono ?_
  rintro e w2 ⟨u, rfl, hown, hb2⟩
  go_wp2_with fail
  go_ret
  exact ⟨u, rfl, own_mono hown hb1.size, hb1.trans (hb2.mono hb1.size)⟩
theorem lastX_any (S : Nat → Prop) (g : Nat) (room most : Int) (s : Tb × List Lv) (a : Int) (w : World) (h : IxIs w S g room most s) (hw : wX s ≤ 900000) :
    Calls Try.prog 18 #[.pointer (some ⟨g, 0, none⟩), .int .i64 a] w fun e w' => e = .returned (.tuple #[enA ((lastE (allX s.1 s.2) a).getD (0, 0, 0)), .bool (lastE (allX s.1 s.2) a).isSome]) ∧ Below w.heap.size w w' := by
  have hb0 : Below w.heap.size w (w.alloc (.cells #[.int .i64 0, .int .i64 0, .int .i64 0] 27)) := (Below.refl _ _).alloc (Nat.le_refl _) _
  have hE := BlkIs.new w 27 #[.int .i64 0, .int .i64 0, .int .i64 0]
  have ht := tabX_any S g room most s _ (h.below hb0) hw
  have hf := allX_few s hw
  have hla := fun T r w ht => last_any 0 T r (allX s.1 s.2) a w ht (by omega)
  obtain ⟨p, hp⟩ : ∃ p, p = (lastE (allX s.1 s.2) a).getD (0, 0, 0) := ⟨_, rfl⟩
  obtain ⟨q, hq⟩ : ∃ q, q = (lastE (allX s.1 s.2) a).isSome := ⟨_, rfl⟩
  rw [← hp, ← hq] at hla ⊢
  obtain ⟨p0, p1, p2⟩ := p
  obtain ⟨W0, hW0⟩ : ∃ W, w.alloc (.cells #[.int .i64 0, .int .i64 0, .int .i64 0] 27) = W := ⟨_, rfl⟩
  rw [hW0] at hb0 hE ht
  have Ht := Lib.hid ht; have Hla := Lib.hid hla; have HE := Lib.hid hE; have Hb0 := Lib.hid hb0
  clear h ht hla hE hb0 hp hq
  go_enter Try.func18, Try.ntmps18
  go_wp2_with fail
  (try rw [hW0])
  refine Ht.out.mono ?_
  rintro e w1 ⟨r1, rfl, ht1, hr1, hb1⟩
  have E1 := Lib.hid (HE.out.below hb1 HE.out.lt); have B1 := Lib.hid (Hb0.out.trans (hb1.mono Hb0.out.size))
  clear hW0
  go_wp2_with fail
  refine (Hla.out _ r1 w1 ht1).mono ?_
  rintro e w2 ⟨rfl, hb2⟩
  have hE2 := E1.out.below hb2 E1.out.lt
  have B2 := Lib.hid (B1.out.trans (hb2.mono B1.out.size))
  have hc := hE2.cell; have hfr := hE2.free; have hlt := hE2.lt
  have E2 := Lib.hid hE2
  clear ht1 hr1 hb1 hb2 hE2
  unfold enA
  dsimp only
  go_wp2_with fail
  obtain ⟨W9, hW9⟩ : ∃ W, ((w2.setCell ⟨w.heap.size, 0, none⟩ (.int .i64 p0)).setCell ⟨w.heap.size, 1, none⟩ (.int .i64 p1)).setCell ⟨w.heap.size, 2, none⟩ (.int .i64 p2) = W := ⟨_, rfl⟩
  have hB9 : BlkIs W9 w.heap.size 27 #[.int .i64 p0, .int .i64 p1, .int .i64 p2] := by rw [← hW9]; exact ((E2.out.put 0 _).put 1 _).put 2 _
  have hb9 : Below w.heap.size w W9 := by rw [← hW9]; exact ((B2.out.setCell (p := ⟨w.heap.size, 0, none⟩) (Nat.le_refl _) _).setCell (p := ⟨w.heap.size, 1, none⟩) (Nat.le_refl _) _).setCell (p := ⟨w.heap.size, 2, none⟩) (Nat.le_refl _) _
  (try rw [hW9])
  have c0 := hB9.cell 0; have c1 := hB9.cell 1; have c2 := hB9.cell 2
  simp at c0 c1 c2
  exact bodyPost_ret (v := .tuple #[.agg #[.int .i64 p0, .int .i64 p1, .int .i64 p2], .bool q]) (by clear hW9; simp [results, Try.results18, go_sem, c0, c1, c2]) rfl ⟨rfl, hb9⟩
theorem memX_any (S : Nat → Prop) (g : Nat) (room most : Int) (s : Tb × List Lv) (w : World) (h : IxIs w S g room most s) (hw : wX s ≤ 900000) :
    Calls Try.prog 11 #[.pointer (some ⟨g, 0, none⟩)] w fun e w' => e = .returned (.int .i64 (s.1.length : Int)) ∧ w = w' := by
  obtain ⟨T, r, v, vs, h⟩ := h
  have k1 := h.blk.cell 2
  simp at k1
  rw [wX_eq] at hw
  have hl := len_any 0 T r s.1 w h.tab (by omega)
  have Hl := Lib.hid hl
  clear hl h
  go_enter Try.func11, Try.ntmps11
  go_wp2_with fail
  refine Hl.out.mono ?_
  rintro e w1 ⟨rfl, rfl⟩
  go_wp2_with fail
  go_ret
  exact ⟨rfl, rfl⟩

theorem indexI_any (A : Option Addr) (n c B : Nat) (zs : List Int) (x : Int) (w : World) (hr : SlR w B 1 A n (intVs zs)) (hn : n ≤ 1000000) :
    Calls Try.prog 76 #[.slice A n c, .int .i64 x] w fun e w' => ∃ i : Int, e = .returned (.int .i64 i) ∧ decide (0 ≤ i) = decide (x ∈ zs) ∧ w = w' := by
  have hl : zs.length = n := by have := hr.len; simpa [intVs] using this
  have Hr := Lib.hid hr; have Hl := Lib.hid hl
  clear hr hl
  go_enter Try.func76, Try.ntmps76
  go_wp2_with fail
  go_loopw [8] (fun i wr => ∃ k : Nat, k ≤ n ∧ i = .int .i64 (k : Int) ∧ (x ∉ zs.take k) ∧ wr = w) (fun i _ => n - (intOf i).toNat)
  case atStart => exact ⟨0, Nat.zero_le _, rfl, by simp, rfl⟩
  case round =>
    obtain ⟨k, hk, rfl, hno, rfl⟩ := hrel
    have Hno := Lib.hid hno
    clear hno
    have hk0 : (0 : Int) ≤ (k : Int) := by omega
    by_cases hlt : k < n
    · obtain ⟨ad, u, rfl, had, hu, hcu⟩ := Hr.out.get hlt
      obtain ⟨y, hy, rfl⟩ := intVs_get hu
      have hk1 : (k : Int) < (n : Int) := by omega
      have Hy := Lib.hid hy
      clear hu hy had
      by_cases hxy : x = y
      · have e1 : (x == y) = true := by simpa using hxy
        have HF : Hid (decide ((0 : Int) ≤ (k : Int)) = decide (x ∈ zs)) := Lib.hid (by rw [decide_eq_true hk0, decide_eq_true (by rw [hxy]; exact List.mem_of_getElem? Hy.out)])
        clear hxy
        go_wp2_with fail
        go_ret
        exact ⟨(k : Int), rfl, HF.out, rfl⟩
      · have e1 : (x == y) = false := by simpa using hxy
        have HN : Hid (x ∉ zs.take (k + 1)) := Lib.hid (by
          rw [List.take_add_one, Hy.out]
          simp only [Option.toList_some, List.mem_append, List.mem_singleton, not_or]
          exact ⟨Hno.out, hxy⟩)
        clear hxy
        go_wp2_with fail
        go_roundw
        case rel => exact ⟨k + 1, by omega, by go_num, HN.out, by first | rfl | trivial⟩
        case measure => simp [intOf]; omega
    · obtain rfl : k = n := by omega
      have dkk : decide (k < k) = false := by simp
      have HF : Hid (decide ((0 : Int) ≤ (-1 : Int)) = decide (x ∈ zs)) := Lib.hid (by
        have := Hno.out
        rw [List.take_of_length_le (by have := Hl.out; omega)] at this
        rw [decide_eq_false this]; rfl)
      clear hlt
      go_wp2_with fail
      go_ret
      exact ⟨-1, rfl, HF.out, rfl⟩
theorem contains_any (A : Option Addr) (n c B : Nat) (zs : List Int) (x : Int) (w : World) (hr : SlR w B 1 A n (intVs zs)) (hn : n ≤ 1000000) :
    Calls Try.prog 56 #[.slice A n c, .int .i64 x] w fun e w' => e = .returned (.bool (decide (x ∈ zs))) ∧ w = w' := by
  have hi := indexI_any A n c B zs x w hr hn
  have Hi := Lib.hid hi
  clear hr hi
  go_enter Try.func56, Try.ntmps56
  go_wp2_with fail
  refine Hi.out.mono ?_
  rintro e w1 ⟨i, rfl, hd, rfl⟩
  have Hd := Lib.hid hd
  clear hd
  go_wp2_with fail
  go_ret
  rw [← Hd.out]
  exact ⟨rfl, rfl⟩

theorem hasX_any (S : Nat → Prop) (g : Nat) (room most : Int) (s : Tb × List Lv) (e0 e1 e2 : Int) (w : World) (h : IxIs w S g room most s) (hw : wX s ≤ 900000) :
    Calls Try.prog 32 #[.pointer (some ⟨g, 0, none⟩), .agg #[.int .i64 e0, .int .i64 e1, .int .i64 e2]] w fun e w' => e = .returned (.bool (hasX s (e0, e1, e2))) ∧ Below w.heap.size w w' := by
  obtain ⟨V, hV⟩ : ∃ V, w.alloc (.cells #[.int .i64 e0, .int .i64 e1, .int .i64 e2] 27) = V := ⟨_, rfl⟩
  have hb0 : Below w.heap.size w V := by rw [← hV]; exact (Below.refl _ _).alloc (Nat.le_refl _) _
  have hE : BlkIs V w.heap.size 27 #[.int .i64 e0, .int .i64 e1, .int .i64 e2] := by rw [← hV]; exact BlkIs.new _ _ _
  have hS0 : ∀ wx, Below V.heap.size V wx → wx.cell? ⟨w.heap.size, 0, none⟩ = some (.int .i64 e0) ∧ wx.cell? ⟨w.heap.size, 1, none⟩ = some (.int .i64 e1) ∧ wx.cell? ⟨w.heap.size, 2, none⟩ = some (.int .i64 e2) := fun wx h => by
    have := (hE.below h hE.lt).cell
    exact ⟨this 0, this 1, this 2⟩
  have hfi := fun wx (hb : Below V.heap.size V wx) => findX_any S g room most s e0 e1 wx (h.below (hb0.trans (hb.mono hb0.size))) hw
  have hfe : (findE (allX s.1 s.2) e0 e1).length ≤ 900000 := Nat.le_trans (by unfold findE; rw [List.length_map]; exact List.length_filter_le _ _) (allX_few s hw)
  have hx : hasX s (e0, e1, e2) = decide (e2 ∈ findE (allX s.1 s.2) e0 e1) := rfl
  rw [hx]
  generalize findE (allX s.1 s.2) e0 e1 = zs at hfi hfe ⊢
  have HS := Lib.hid hS0; have Hfi := Lib.hid hfi; have HB0 := Lib.hid hb0
  have HB := Below.refl V.heap.size V
  have hS := hS0 _ HB
  clear h hE hfi hb0 hS0 hx
  go_enter Try.func32, Try.ntmps32
  go_wp2_with fail
  (try rw [hV])
  go_region_held3 (fun wx => wx.cell? ⟨w.heap.size, 0, none⟩ = some (.int .i64 e0) ∧ wx.cell? ⟨w.heap.size, 1, none⟩ = some (.int .i64 e1) ∧ wx.cell? ⟨w.heap.size, 2, none⟩ = some (.int .i64 e2)) (first | exact hS | go_keep) ((first
    | (go_at_call 24; refine (Hfi.out _ (by first | exact HB | exact below_drewN HB 1)).mono ?_; rintro e wx ⟨u, rfl, hown, hb⟩; obtain ⟨A, c, rfl, hnc⟩ := own_slice hown; have hr := SlR.own hown; have HB := HB.trans ((by first | exact hb | exact below_undrew hb : Below _ _ _).mono HB.size); have hS := HS.out _ HB)
    | (go_at_call 56; refine (contains_any A zs.length c _ zs e2 _ hr (by omega)).mono ?_; rintro e wx ⟨rfl, rfl⟩)))
  all_goals
    go_wp2_with fail
    go_ret
    exact ⟨rfl, HB0.out.trans ((by first | exact HB | exact below_drewN HB 1 : Below V.heap.size V _).mono HB0.out.size)⟩
end Go.Proofs.Ytfjilngofdahgaa

/- chapter 14: join. -/
namespace Go.Proofs.Ytfjilngofdahgaa
open Go.RowKit
set_option maxHeartbeats 2000000
set_option maxRecDepth 100000
set_option linter.unusedVariables false

theorem joinX_any (S : Nat → Prop) (r : Option Nat) (v : Value) (l : Lv) (w : World) (h : LvIs w S r v l) (hS : ∀ b, S b → b < w.heap.size) (hw : wL l ≤ 900000) :
    Calls Try.prog 39 #[v] w fun e w' => ∃ u, e = .returned u ∧ w'.ownsRow w.heap.size 27 3 u (joinX l).length (enVs (joinX l)) ∧ Below w.heap.size w w' := by
  obtain ⟨us, hou, hus⟩ := h
  obtain ⟨Al, cl, rfl, hnl⟩ := own_slice hou
  have hfl := flat_len l
  have hl9 : l.length ≤ 900000 := by omega
  have KL : Hid (∀ wx, Below w.heap.size w wx → wx.ownsRow 0 32 1 (.slice Al l.length cl) l.length us ∧ ∀ (j : Nat) (u : Value) (t : Tb), us[j]? = some u → l[j]? = some t → wx.ownsRow 0 27 3 u t.length (enVs t)) := Lib.hid (fun wx hb => ⟨own_below hou hb (fun q hq => (hou.lt q hq).2), fun j u t h1 h2 => own_below (hus j u t h1 h2).1 hb (fun q hq => ((hus j u t h1 h2).1.lt q hq).2)⟩)
  have Hus := Lib.hid hus; have HS := Lib.hid hS; have Hfl := Lib.hid hfl
  clear hou hus hS hfl
  go_enter Try.func39, Try.ntmps39
  go_wp2_with fail
  refine (new_any w).mono ?_
  rintro e w1 ⟨rfl, ht, hb⟩
  have T1 := Lib.hid (ht 0); have B1 := Lib.hid hb
  clear ht hb
  go_wp2_with fail
  go_loopw [9] (fun i wr => ∃ (j : Nat) (r2 : Option Nat), j ≤ l.length ∧ i = .int .i64 (j : Int) ∧ TabIs wr 0 w.heap.size r2 (addsE [] (l.take j).flatten) ∧ (∀ b, r2 = some b → w.heap.size ≤ b) ∧ Below w.heap.size w wr) (fun i _ => l.length - (intOf i).toNat)
  case atStart => exact ⟨0, none, Nat.zero_le _, rfl, by simpa [addsE] using T1.out, fun b hb => (by cases hb), B1.out⟩
  case round =>
    obtain ⟨j, r2, hj, rfl, ht, hr2, hb⟩ := hrel
    have hj0 : (0 : Int) ≤ (j : Int) := by omega
    have T4 := Lib.hid ht; have R4 := Lib.hid hr2; have B4 := Lib.hid hb
    clear ht hr2 hb
    by_cases hjl : j < l.length
    · obtain ⟨ad2, u2, rfl, had2, hu2, hcu2⟩ := (SlR.own (KL.out _ B4.out).1).get hjl
      have hj1 : (j : Int) < (l.length : Int) := by omega
      obtain ⟨t, ht⟩ : ∃ t, l[j]? = some t := ⟨_, List.getElem?_eq_getElem hjl⟩
      have hot := (KL.out _ B4.out).2 j u2 t hu2 ht
      have hsb2 := (Hus.out j u2 t hu2 ht).2
      obtain ⟨At, ct, rfl, hnt⟩ := own_slice hot
      have hap : 0 < t.length → ∀ ad, At = some ad → ad.block ≠ w.heap.size ∧ some ad.block ≠ r2 := fun _ ad h => by
        have h1 := HS.out _ (hsb2 ad.block (by rw [h]; rfl)).1
        exact ⟨by omega, fun e => by have := R4.out _ e.symm; omega⟩
      have e2 := congrArg (fun x : Lv => x.flatten.length) (split_at ht)
      simp only [List.flatten_append, List.flatten_cons, List.length_append] at e2
      have hal := (adds_le [] (l.take j).flatten).2
      have hfl := Hfl.out
      simp only [List.length_nil] at hal
      have hadd := add_any 0 w.heap.size r2 _ t At t.length ct wr T4.out (adds_sorted (by simp [SortedE]) _) (SlR.own hot) hap (Nat.zero_le _) (by omega)
      rw [← adds_app, ← take_nextL ht] at hadd
      have Hadd := Lib.hid hadd
      clear hadd hap hot hsb2 e2 hal hfl hu2 ht
      go_wp2_with fail
      refine Hadd.out.mono ?_
      rintro e w5 ⟨rfl, r5, ht5, hst⟩
      have B5 : Hid (Below w.heap.size w w5) := Lib.hid (((Chg.of_below B4.out).trans hst.chg (S := fun _ => False) (fun k hk hT => by
        rcases hT with h | h
        · omega
        · have := R4.out _ h.symm; omega)).below (fun k hk => hk.elim) (Nat.le_refl _))
      have R5 : Hid (∀ b, r5 = some b → w.heap.size ≤ b) := Lib.hid (fun b hb => by
        rcases hst.row with h | ⟨gg, h, h2⟩
        · rw [h] at hb; exact R4.out b hb
        · rw [h] at hb; injection hb with hb; have := B4.out.size; omega)
      have T5 := Lib.hid ht5
      clear ht5 hst
      go_wp2_with fail
      go_roundw
      case rel => exact ⟨j + 1, r5, by omega, by go_num, T5.out, R5.out, B5.out⟩
      case measure => simp [intOf]; omega
    · obtain rfl : j = l.length := by omega
      have djj : decide (l.length < l.length) = false := by simp
      have T6 : Hid (TabIs wr 0 w.heap.size r2 (joinX l)) := Lib.hid (by have := T4.out; rw [List.take_of_length_le (Nat.le_refl _)] at this; exact this)
      have hjf := join_few l
      clear hjl
      go_wp2_with fail
      refine (all_any 0 w.heap.size r2 _ wr T6.out (by omega)).mono ?_
      rintro e w6 ⟨u, rfl, hown, hb⟩
      go_wp2_with fail
      go_ret
      exact ⟨u, rfl, own_mono hown B4.out.size, B4.out.trans (hb.mono B4.out.size)⟩
end Go.Proofs.Ytfjilngofdahgaa

/- chapter 14: Flush. -/
namespace Go.Proofs.Ytfjilngofdahgaa
open Go.RowKit
set_option maxHeartbeats 4000000
set_option maxRecDepth 100000
set_option linter.unusedVariables false

/-! ### plain -/
def headX (r : List Lv) (t : Tb) : List Lv := match r with | [] => [[t]] | l :: r' => (l ++ [t]) :: r'
theorem carry_head (most : Int) (hm : 2 ≤ most) (r : List Lv) (t : Tb) : carryX most (headX r t) none = carryX most r (some t) := by
  cases r with
  | nil =>
    unfold headX
    dsimp only
    unfold carryX
    rw [if_neg (by simp; omega)]
    simp [carryX]
  | cons l r =>
    unfold headX
    dsimp only
    unfold carryX
    simp only [Option.toList_none, List.append_nil, Option.toList_some]
    first | done | rfl
theorem modify_in {α : Type} (l : List α) {k : Nat} (hk : k < l.length) (f : α → α) : l.modify k f = l.set k (f l[k]) := by
  apply List.ext_getElem?
  intro i
  rw [List.getElem?_modify, List.getElem?_set]
  by_cases hi : k = i
  · subst hi; simp [hk]
  · simp [hi]
theorem put_take {lv : List Lv} {k : Nat} {t : Tb} (hk : k < lv.length) : (putX (lv.set k []) (k + 1) t).take (k + 1) = lv.take k ++ [[]] ∧ (putX (lv.set k []) (k + 1) t).drop (k + 1) = headX (lv.drop (k + 1)) t := by
  have h1 : (lv.set k []).take (k + 1) = lv.take k ++ [[]] := by
    rw [List.take_set, List.take_succ_eq_append_getElem hk, List.set_append_right _ _ (by rw [List.length_take]; omega)]
    rw [List.length_take, Nat.min_eq_left (by omega), Nat.sub_self]
    rfl
  have h2 : (lv.set k []).drop (k + 1) = lv.drop (k + 1) := by rw [List.drop_set_of_lt (by omega)]
  unfold putX
  rw [List.length_set]
  split
  · next h =>
    have hlt : k + 1 < (lv.set k []).length := by simpa using h
    have e := modify_in (lv.set k []) hlt (· ++ [t])
    rw [e]
    refine ⟨by rw [List.take_set_of_le (Nat.le_refl _), h1], ?_⟩
    rw [List.drop_set, if_neg (by omega), Nat.sub_self, h2]
    have h3 : lv.drop (k + 1) = lv[k + 1] :: lv.drop (k + 2) := List.drop_eq_getElem_cons h
    have h4 : (lv.set k [])[k + 1] = lv[k + 1] := List.getElem_set_ne (by omega) _
    rw [h4, h3, List.set_cons_zero]
    rfl
  · next h =>
    have hl : (lv.set k []).length = k + 1 := by rw [List.length_set]; omega
    refine ⟨by rw [List.take_append_of_le_length (by omega), h1], ?_⟩
    rw [List.drop_append_of_le_length (by omega), h2, List.drop_of_length_le (by omega)]
    rfl
theorem carry_step (most : Int) (hm : 2 ≤ most) {lv : List Lv} {k : Nat} {l : Lv} (hl : lv[k]? = some l) (hf : most ≤ (l.length : Int)) :
    lv.take k ++ carryX most (lv.drop k) none = (putX (lv.set k []) (k + 1) (joinX l)).take (k + 1) ++ carryX most ((putX (lv.set k []) (k + 1) (joinX l)).drop (k + 1)) none := by
  obtain ⟨hk, hx⟩ := List.getElem?_eq_some_iff.1 hl
  obtain ⟨h1, h2⟩ := put_take (t := joinX l) hk
  rw [h1, h2, carry_head most hm, List.drop_eq_getElem_cons hk, hx]
  conv => lhs; unfold carryX
  simp only [Option.toList_none, List.append_nil]
  rw [if_pos hf]
  simp
theorem carry_skip (most : Int) {lv : List Lv} {k : Nat} {l : Lv} (hl : lv[k]? = some l) (hf : ¬ most ≤ (l.length : Int)) :
    lv.take k ++ carryX most (lv.drop k) none = lv.take (k + 1) ++ carryX most (lv.drop (k + 1)) none := by
  obtain ⟨hk, hx⟩ := List.getElem?_eq_some_iff.1 hl
  rw [List.drop_eq_getElem_cons hk, hx, List.take_succ_eq_append_getElem hk, hx]
  conv => lhs; unfold carryX
  simp only [Option.toList_none, List.append_nil]
  rw [if_neg hf]
  simp
theorem set_w {lv : List Lv} {k : Nat} {l : Lv} (hl : lv[k]? = some l) : wLs (lv.set k []) + wL l = wLs lv := by
  induction lv generalizing k with
  | nil => simp at hl
  | cons a r ih =>
    cases k with
    | zero =>
      have : a = l := by simpa using hl
      subst this
      rw [List.set_cons_zero, wLs_cons, wLs_cons]
      have h0 : wL [] = 0 := rfl
      omega
    | succ k =>
      have := ih (k := k) (by simpa using hl)
      rw [List.set_cons_succ, wLs_cons, wLs_cons]
      omega
theorem put_full (most : Int) (hm : 2 ≤ most) {lv : List Lv} {k : Nat} {l : Lv} (hl : lv[k]? = some l) (hf : most ≤ (l.length : Int)) : wLs (putX (lv.set k []) (k + 1) (joinX l)) ≤ wLs lv := by
  have h1 := put_w (lv.set k []) (k + 1) (joinX l)
  have h2 := set_w hl
  have h3 := join_few l
  omega
/-! ### what the levels' lengths are, by the memory -/
def lens (g : Nat) (w : World) : List Nat := match w.cell? ⟨g, 3, none⟩ with
  | some (.slice (some a) n _) => (List.range n).map fun i => match w.cell? (a.add i) with | some (.slice _ m _) => m | _ => 0
  | _ => []
theorem lens_at {w : World} {S : Nat → Prop} {g T : Nat} {room most : Int} {mem : Tb} {lv : List Lv} {r : Option Nat} {v : Value} {vs : List Value} (h : IxAt w S g room most (mem, lv) T r v vs) : lens g w = lv.map List.length := by
  obtain ⟨A, c, rfl, _⟩ := own_slice h.row
  have k3 := h.blk.cell 3
  simp at k3
  have hvl : vs.length = lv.length := by have := h.row.1; simpa using this
  unfold lens
  rw [k3]
  cases A with
  | none =>
    have : lv.length = 0 := by
      rcases h.row.2 with ⟨_, h0⟩ | ⟨_, _, _, hv, _⟩
      · exact h0
      · simp at hv
    rw [List.eq_nil_of_length_eq_zero this]; rfl
  | some a =>
    dsimp only
    apply List.ext_getElem?
    intro i
    rw [List.getElem?_map, List.getElem?_map]
    rcases Nat.lt_or_ge i lv.length with hi | hi
    · obtain ⟨ad, vk, hA, _, hvk, hcv⟩ := (SlR.own h.row).get hi
      injection hA with hA
      subst hA
      obtain ⟨⟨us, hou, _⟩, _⟩ := h.lev i vk _ hvk (List.getElem?_eq_getElem hi)
      obtain ⟨A', c', rfl, _⟩ := own_slice hou
      rw [List.getElem?_range hi, List.getElem?_eq_getElem hi]
      simp only [Option.map_some, hcv]
    · rw [List.getElem?_eq_none (by simpa using hi), List.getElem?_eq_none hi]
      rfl
/-! ### a new tab -/
theorem IxAt.newMem {w : World} {S : Nat → Prop} {g T T' : Nat} {room most : Int} {mem : Tb} {lv : List Lv} {r : Option Nat} {v : Value} {vs : List Value} (h : IxAt w S g room most (mem, lv) T r v vs) (ht : TabIs w 0 T' none []) (hT : ¬ S T') :
    IxAt (w.setCell ⟨g, 2, none⟩ (.pointer (some ⟨T', 0, none⟩))) (fun b => S b ∨ b = T') g room most ([], lv) T' none v vs ∧ Chg S w (w.setCell ⟨g, 2, none⟩ (.pointer (some ⟨T', 0, none⟩))) := by
  have hc : Chg (fun b => b = g) w (w.setCell ⟨g, 2, none⟩ (.pointer (some ⟨T', 0, none⟩))) := (Chg.refl (fun b => b = g) w).set (a := ⟨g, 2, none⟩) (fun _ => rfl) _
  have hC : ∀ b, b = g → (∃ t cs, BlkIs w b t cs ∧ 27 ≠ t) ∨ (∃ y e c n xs, w.ownsRow 0 e c y n xs ∧ 27 ≠ e ∧ y.ownBlock = some b) := fun b hb => by
    subst hb; exact .inl ⟨_, _, h.blk, by decide⟩
  refine ⟨⟨h.blk.put 2 _, ht.chg hc (fun e => hT (by rw [e]; exact h.sg)) (fun b hb => by cases hb), own_chg h.row hc (fun b hb e => h.dvg (by rw [hb, e])), fun i v' l h1 h2 => ?_, h.two, .inl h.sg, .inr rfl, fun b hb => (by cases hb), fun b hb => .inl (h.sv b hb), fun b hb => ?_⟩, hc.more (fun k _ hk => by rw [hk]; exact h.sg)⟩
  · obtain ⟨k1, k2⟩ := h.lev i v' l h1 h2
    obtain ⟨us, ho, hu⟩ := (k1.keep hc (fun b hb e => k1.dblk h.blk (by decide) (by rw [hb, e])) hC)
    exact ⟨⟨us, ho, fun j u t h3 h4 => ⟨(hu j u t h3 h4).1, fun b hb => ⟨.inl ((hu j u t h3 h4).2 b hb).1, by simp⟩⟩⟩, fun b hb => .inl (k2 b hb)⟩
  · have hsz := hc.size
    rcases hb with hb | rfl
    · exact Nat.lt_of_lt_of_le (h.lt b hb) hsz
    · obtain ⟨vt, k1, _⟩ := ht
      exact Nat.lt_of_lt_of_le k1.lt hsz
end Go.Proofs.Ytfjilngofdahgaa
