/- chapter 14: the index in memory. -/
import Derived.Test.YtfjilngofdahgaaIxPlain
import Derived.Test.YtfjilngofdahgaaChg
import Derived.Test.YtfjilngofdahgaaTabLast
import Derived.Test.YtfjilngofdahgaaTabAdd
import Derived.Test.YtfjilngofdahgaaTabCut
namespace Go.Proofs.Ytfjilngofdahgaa
open Go.RowKit
set_option maxHeartbeats 2000000
set_option maxRecDepth 100000
set_option linter.unusedVariables false

/-- a level: a row of tables, in blocks of S; none in the block r -/
def LvIs (w : World) (S : Nat → Prop) (r : Option Nat) (v : Value) (l : Lv) : Prop :=
  ∃ us, w.ownsRow 0 32 1 v l.length us ∧ ∀ (j : Nat) (u : Value) (t : Tb), us[j]? = some u → l[j]? = some t → w.ownsRow 0 27 3 u t.length (enVs t) ∧ ∀ b, u.ownBlock = some b → S b ∧ some b ≠ r
/-- an index at block g, its blocks in S: the tab's block T, the tab's row r, the row of levels v -/
structure IxAt (w : World) (S : Nat → Prop) (g : Nat) (room most : Int) (s : Tb × List Lv) (T : Nat) (r : Option Nat) (v : Value) (vs : List Value) : Prop where
  blk : BlkIs w g 55 #[.int .i64 room, .int .i64 most, .pointer (some ⟨T, 0, none⟩), v]
  tab : TabIs w 0 T r s.1
  row : w.ownsRow 0 57 1 v s.2.length vs
  lev : ∀ (i : Nat) (v' : Value) (l : Lv), vs[i]? = some v' → s.2[i]? = some l → LvIs w S r v' l ∧ ∀ b, v'.ownBlock = some b → S b
  two : ∀ (i j : Nat) (v1 v2 : Value) (b : Nat), vs[i]? = some v1 → vs[j]? = some v2 → v1.ownBlock = some b → v2.ownBlock = some b → i = j
  sg : S g
  sT : S T
  sr : ∀ b, r = some b → S b
  sv : ∀ b, v.ownBlock = some b → S b
  lt : ∀ b, S b → b < w.heap.size
def IxIs (w : World) (S : Nat → Prop) (g : Nat) (room most : Int) (s : Tb × List Lv) : Prop := ∃ T r v vs, IxAt w S g room most s T r v vs
/-- what a call at an index makes of it -/
def IxStep (S : Nat → Prop) (g : Nat) (room most : Int) (w w' : World) (s' : Tb × List Lv) : Prop :=
  ∃ S', IxIs w' S' g room most s' ∧ Chg S w w' ∧ ∀ b, S' b → S b ∨ w.heap.size ≤ b

theorem own_type {w : World} {base base' n m c c' : Nat} {e e' : TypeId} {v v' : Value} {xs ys : List Value} (h : w.ownsRow base e c v n xs) (h' : w.ownsRow base' e' c' v' m ys) (hne : e ≠ e') {b : Nat} (hb : v.ownBlock = some b) : v'.ownBlock ≠ some b := by
  intro hb'
  rcases h.2 with ⟨h0, _⟩ | ⟨g, cap, cur, hv, _, hh, _⟩
  · rw [h0] at hb; cases hb
  · rcases h'.2 with ⟨h0, _⟩ | ⟨g', cap', cur', hv', _, hh', _⟩
    · rw [h0] at hb'; cases hb'
    · rw [hv] at hb; rw [hv'] at hb'
      simp [Value.ownBlock] at hb hb'
      subst hb hb'
      rw [hh] at hh'
      injection hh' with hh'
      injection hh' with _ h3
      exact hne h3
theorem own_len {w : World} {base e n c : Nat} {v : Value} {xs : List Value} (h : w.ownsRow base e c v n xs) : xs.length = n * c := h.1
section
variable {w w' : World} {S T : Nat → Prop} {r : Option Nat}
theorem LvIs.chg {v : Value} {l : Lv} (h : LvIs w S r v l) (hc : Chg T w w') (h1 : ∀ b, v.ownBlock = some b → ¬ T b) (h2 : ∀ b, S b → some b ≠ r → T b → False) : LvIs w' S r v l := by
  obtain ⟨us, ho, hu⟩ := h
  refine ⟨us, own_chg ho hc h1, fun j u t hj ht => ?_⟩
  obtain ⟨h3, h4⟩ := hu j u t hj ht
  exact ⟨own_chg h3 hc (fun b hb hT => h2 b (h4 b hb).1 (h4 b hb).2 hT), h4⟩
theorem LvIs.below {v : Value} {l : Lv} (h : LvIs w S r v l) (hb : Below w.heap.size w w') : LvIs w' S r v l := by
  obtain ⟨us, ho, hu⟩ := h
  refine ⟨us, own_below ho hb (fun q hq => (ho.lt q hq).2), fun j u t hj ht => ?_⟩
  obtain ⟨h3, h4⟩ := hu j u t hj ht
  exact ⟨own_below h3 hb (fun q hq => (h3.lt q hq).2), h4⟩
theorem IxAt.below {g T : Nat} {room most : Int} {s : Tb × List Lv} {v : Value} {vs : List Value} (h : IxAt w S g room most s T r v vs) (hb : Below w.heap.size w w') : IxAt w' S g room most s T r v vs :=
  ⟨h.blk.below hb h.blk.lt, h.tab.below hb, own_below h.row hb (fun q hq => (h.row.lt q hq).2), fun i v' l h1 h2 => ⟨(h.lev i v' l h1 h2).1.below hb, (h.lev i v' l h1 h2).2⟩, h.two, h.sg, h.sT, h.sr, h.sv, fun b hs => Nat.lt_of_lt_of_le (h.lt b hs) hb.size⟩
theorem IxIs.below {g : Nat} {room most : Int} {s : Tb × List Lv} (h : IxIs w S g room most s) (hb : Below w.heap.size w w') : IxIs w' S g room most s := by
  obtain ⟨T, r, v, vs, h⟩ := h
  exact ⟨T, r, v, vs, h.below hb⟩
theorem TabIs.chg {base B : Nat} {l : List En} (h : TabIs w base B r l) (hc : Chg T w w') (h1 : ¬ T B) (h2 : ∀ b, r = some b → ¬ T b) : TabIs w' base B r l := by
  obtain ⟨v, k1, k2, k3, k4⟩ := h
  exact ⟨v, k1.chg hc h1, own_chg k2 hc (fun b hb => h2 b (k3 ▸ hb)), k3, k4⟩
theorem IxAt.chg {g B : Nat} {room most : Int} {s : Tb × List Lv} {v : Value} {vs : List Value} (h : IxAt w S g room most s B r v vs) (hc : Chg T w w') (hT : ∀ b, S b → ¬ T b) : IxAt w' S g room most s B r v vs :=
  ⟨h.blk.chg hc (hT _ h.sg), h.tab.chg hc (hT _ h.sT) (fun b hb => hT b (h.sr b hb)), own_chg h.row hc (fun b hb => hT b (h.sv b hb)), fun i v' l h1 h2 => ⟨(h.lev i v' l h1 h2).1.chg hc (fun b hb => hT b ((h.lev i v' l h1 h2).2 b hb)) (fun b hs _ ht => hT b hs ht), (h.lev i v' l h1 h2).2⟩, h.two, h.sg, h.sT, h.sr, h.sv, fun b hs => Nat.lt_of_lt_of_le (h.lt b hs) hc.size⟩
theorem IxIs.chg {g : Nat} {room most : Int} {s : Tb × List Lv} (h : IxIs w S g room most s) (hc : Chg T w w') (hT : ∀ b, S b → ¬ T b) : IxIs w' S g room most s := by
  obtain ⟨B, r, v, vs, h⟩ := h
  exact ⟨B, r, v, vs, h.chg hc hT⟩
end
theorem IxStep.refl {w : World} {S : Nat → Prop} {g : Nat} {room most : Int} {s : Tb × List Lv} (h : IxIs w S g room most s) : IxStep S g room most w w s := ⟨S, h, Chg.refl _ _, fun b hb => .inl hb⟩
theorem IxStep.of_below {w w' : World} {S : Nat → Prop} {g : Nat} {room most : Int} {s : Tb × List Lv} (h : IxIs w S g room most s) (hb : Below w.heap.size w w') : IxStep S g room most w w' s := ⟨S, h.below hb, Chg.of_below hb, fun b hb => .inl hb⟩
theorem IxStep.then {w w1 w2 : World} {S S1 : Nat → Prop} {g : Nat} {room most : Int} {s2 : Tb × List Lv} (hc : Chg S w w1) (hs : ∀ b, S1 b → S b ∨ w.heap.size ≤ b) (h2 : IxStep S1 g room most w1 w2 s2) : IxStep S g room most w w2 s2 := by
  obtain ⟨S2, h3, h4, h5⟩ := h2
  refine ⟨S2, h3, hc.trans h4 (fun k hk h1 => by rcases hs k h1 with h | h; exact h; omega), fun b hb => ?_⟩
  rcases h5 b hb with h | h
  · exact hs b h
  · exact .inr (Nat.le_trans hc.size h)
theorem TabStep.chg {w w' : World} {T : Nat} {r r' : Option Nat} (h : TabStep w w' T r r') : Chg (fun b => b = T ∨ some b = r) w w' :=
  ⟨h.os, h.tape, h.output, h.size, fun k hk hn => h.block k hk (fun e => hn (.inl e)) (fun e => hn (.inr e))⟩

/-! ### what only reads -/
theorem newX_any (room most : Int) (w : World) : Calls Try.prog 9 #[.int .i64 room, .int .i64 most] w fun e w' => ∃ g S, e = .returned (.pointer (some ⟨g, 0, none⟩)) ∧ w.heap.size ≤ g ∧ IxIs w' S g (max room 1) (max most 2) ([], []) ∧ Below w.heap.size w w' ∧ ∀ b, S b → w.heap.size ≤ b := by
  have hm1 : ∀ a b : Int, (if a < b then b else a) = max a b := fun a b => by omega
  go_enter Try.func9, Try.ntmps9
  go_wp2_with fail
  refine (new_any w).mono ?_
  rintro e w1 ⟨rfl, ht, hb⟩
  have hwt := (ht 0)
  have Ht := Lib.hid ht; have Hb := Lib.hid hb
  have hl1 : w.heap.size < w1.heap.size := by obtain ⟨v, k1, _⟩ := ht 0; exact k1.lt
  clear ht hb hwt
  go_wp2_with fail
  go_ret
  have ht := Ht.out 0
  have hal : Below w1.heap.size w1 (w1.alloc (.cells #[.int .i64 (max room 1), .int .i64 (max most 2), .pointer (some ⟨w.heap.size, 0, none⟩), .slice none 0 0] 55)) := (Below.refl _ _).alloc (Nat.le_refl _) _
  refine ⟨w1.heap.size, fun b => b = w1.heap.size ∨ b = w.heap.size, rfl, Hb.out.size, ⟨w.heap.size, none, .slice none 0 0, [], BlkIs.new _ _ _, ht.below hal, World.ownsRow_nil _ _ _ _, fun i v' l h => by simp at h, fun i j v1 v2 b h => by simp at h, .inl rfl, .inr rfl, fun b h => (by cases h), fun b h => (by cases h), fun b hb => ?_⟩, Hb.out.alloc Hb.out.size _, fun b hb => ?_⟩
  · have := hal.size
    rcases hb with rfl | rfl <;> simp <;> omega
  · have := Hb.out.size
    rcases hb with rfl | rfl <;> omega

theorem tabX_any (S : Nat → Prop) (g : Nat) (room most : Int) (s : Tb × List Lv) (w : World) (h : IxIs w S g room most s) (hw : wX s ≤ 900000) :
    Calls Try.prog 33 #[.pointer (some ⟨g, 0, none⟩)] w fun e w' => ∃ r', e = .returned (.pointer (some ⟨w.heap.size, 0, none⟩)) ∧ TabIs w' 0 w.heap.size r' (allX s.1 s.2) ∧ (∀ b, r' = some b → w.heap.size ≤ b) ∧ Below w.heap.size w w' := by
  obtain ⟨mem, lv⟩ := s
  obtain ⟨T, r, v, vs, h⟩ := h
  have hfl := flats_len lv
  rw [wX_eq] at hw
  dsimp only at hw
  have hK : ∀ wx, Below w.heap.size w wx → IxAt wx S g room most (mem, lv) T r v vs := fun wx hb => h.below hb
  have hS : ∀ b, S b → b < w.heap.size := h.lt
  have K := Lib.hid hK; have HS := Lib.hid hS; have H := Lib.hid h
  have hvl : vs.length = lv.length := by have := h.row.1; simpa using this
  obtain ⟨Av, cv, rfl, hnv⟩ := own_slice h.row
  have hg := h.blk.lt
  have hlv9 : lv.length ≤ 900000 := by omega
  have Hvl := Lib.hid hvl; have Hfl := Lib.hid hfl
  clear h hK hS hvl hfl
  go_enter Try.func33, Try.ntmps33
  go_wp2_with fail
  refine (new_any w).mono ?_
  rintro e w1 ⟨rfl, ht, hb⟩
  have k1 := (K.out _ hb).blk.cell 2
  have k2 := (K.out _ hb).blk.cell 3
  simp at k1 k2
  have T1 := Lib.hid (ht 0); have B1 := Lib.hid hb
  clear ht hb
  go_wp2_with fail
  refine (all_any 0 T r mem w1 (K.out _ B1.out).tab (by omega)).mono ?_
  rintro e w2 ⟨u, rfl, hown, hb⟩
  obtain ⟨Am, cm, rfl, hnm⟩ := own_slice hown
  have hr2 := SlR.own hown
  have B2 := Lib.hid (B1.out.trans (hb.mono B1.out.size)); have T2 := Lib.hid (T1.out.below hb)
  have hl1 : w.heap.size < w1.heap.size := by obtain ⟨v, k1, _⟩ := T1.out; exact k1.lt
  have hap : 0 < mem.length → ∀ ad, Am = some ad → ad.block ≠ w.heap.size ∧ some ad.block ≠ (none : Option Nat) := fun _ ad h => ⟨by have := (hown.lt ad.block (by rw [h]; rfl)).1; omega, by simp⟩
  clear hown hb k1 k2
  go_wp2_with fail
  refine (add_any 0 w.heap.size none [] mem Am mem.length cm w2 T2.out (by simp [SortedE]) hr2 hap (Nat.zero_le _) (by simp; omega)).mono ?_
  rintro e w3 ⟨rfl, r3, ht3, hst⟩
  have B3 : Hid (Below w.heap.size w w3) := Lib.hid (((Chg.of_below B2.out).trans hst.chg (S := fun _ => False) (fun k hk hT => by rcases hT with h | h; omega; cases h)).below (fun k hk => hk.elim) (Nat.le_refl _))
  have R3 : Hid (∀ b, r3 = some b → w.heap.size ≤ b) := Lib.hid (fun b hb => by
    rcases hst.row with h | ⟨gg, h, h2⟩
    · rw [h] at hb; cases hb
    · rw [h] at hb; injection hb with hb; have := B2.out.size; omega)
  have T3 := Lib.hid ht3
  have k3 := (K.out _ B3.out).blk.cell 3
  simp at k3
  clear ht3 hst hr2 hap
  go_wp2_with fail
  go_loopw [24] (fun i wr => ∃ (k : Nat) (r1 : Option Nat), k ≤ lv.length ∧ i = .int .i64 (k : Int) ∧ TabIs wr 0 w.heap.size r1 (addsE [] (mem ++ (lv.take k).flatten.flatten)) ∧ (∀ b, r1 = some b → w.heap.size ≤ b) ∧ Below w.heap.size w wr) (fun i _ => lv.length - (intOf i).toNat)
  case atStart => exact ⟨0, r3, Nat.zero_le _, rfl, by simpa using T3.out, R3.out, B3.out⟩
  case round =>
    obtain ⟨k, r1, hk, rfl, ht, hr1, hb⟩ := hrel
    have hk0 : (0 : Int) ≤ (k : Int) := by omega
    have TT := Lib.hid ht; have RR := Lib.hid hr1; have BB := Lib.hid hb
    clear ht hr1 hb
    by_cases hlt : k < lv.length
    · obtain ⟨ad, u, rfl, had, hu, hcu⟩ := (SlR.own (K.out _ BB.out).row).get hlt
      have hk1 : (k : Int) < (lv.length : Int) := by omega
      obtain ⟨l, hl⟩ : ∃ l, lv[k]? = some l := ⟨_, List.getElem?_eq_getElem hlt⟩
      obtain ⟨⟨us, hou, hus⟩, hsb⟩ := H.out.lev k u l hu hl
      obtain ⟨Al, cl, rfl, hnl⟩ := own_slice hou
      have KL : Hid (∀ wx, Below w.heap.size w wx → wx.ownsRow 0 32 1 (.slice Al l.length cl) l.length us ∧ ∀ (j : Nat) (u : Value) (t : Tb), us[j]? = some u → l[j]? = some t → wx.ownsRow 0 27 3 u t.length (enVs t)) := Lib.hid (fun wx hb => ⟨own_below hou hb (fun q hq => (hou.lt q hq).2), fun j u t h1 h2 => own_below (hus j u t h1 h2).1 hb (fun q hq => ((hus j u t h1 h2).1.lt q hq).2)⟩)
      have Hus := Lib.hid hus; have Hl := Lib.hid hl
      have hul : us.length = l.length := by have := hou.1; simpa using this
      have hl9 : l.length ≤ 900000 := by have h1 := level_few hl; have h2 := flat_len l; omega
      clear hus hou hsb hu hl
      go_wp2_with fail
      go_loopw [30] (fun i wq => ∃ (j : Nat) (r2 : Option Nat), j ≤ l.length ∧ i = .int .i64 (j : Int) ∧ TabIs wq 0 w.heap.size r2 (addsE [] (mem ++ (lv.take k).flatten.flatten ++ (l.take j).flatten)) ∧ (∀ b, r2 = some b → w.heap.size ≤ b) ∧ Below w.heap.size w wq) (fun i _ => l.length - (intOf i).toNat)
      case atStart => exact ⟨0, r1, Nat.zero_le _, rfl, by simpa using TT.out, RR.out, BB.out⟩
      case round =>
        obtain ⟨j, r2, hj, rfl, ht, hr2, hb⟩ := hrel
        have hj0 : (0 : Int) ≤ (j : Int) := by omega
        have T4 := Lib.hid ht; have R4 := Lib.hid hr2; have B4 := Lib.hid hb
        clear ht hr2 hb
        by_cases hjl : j < l.length
        · obtain ⟨ad2, u2, rfl, had2, hu2, hcu2⟩ := (SlR.own (KL.out _ B4.out).1).get hjl
          have hj1 : (j : Int) < (l.length : Int) := by omega
          obtain ⟨t, ht⟩ : ∃ t, l[j]? = some t := ⟨_, List.getElem?_eq_getElem hjl⟩
          have hot := (KL.out _ B4.out).2 j u2 t hu2 ht
          have hsb2 := (Hus.out j u2 t hu2 ht).2
          obtain ⟨At, ct, rfl, hnt⟩ := own_slice hot
          have hap : 0 < t.length → ∀ ad, At = some ad → ad.block ≠ w.heap.size ∧ some ad.block ≠ r2 := fun _ ad h => by
            have h1 := HS.out _ (hsb2 ad.block (by rw [h]; rfl)).1
            exact ⟨by omega, fun e => by have := R4.out _ e.symm; omega⟩
          have hpl := part_len Hl.out ht
          have hal := (adds_le [] (mem ++ (lv.take k).flatten.flatten ++ (l.take j).flatten)).2
          have hfl := Hfl.out
          simp only [List.length_append, List.length_nil] at hal
          have hadd := add_any 0 w.heap.size r2 _ t At t.length ct wr T4.out (adds_sorted (by simp [SortedE]) _) (SlR.own hot) hap (Nat.zero_le _) (by omega)
          rw [← adds_app, List.append_assoc _ _ t, ← take_nextL ht] at hadd
          have Hadd := Lib.hid hadd
          clear hadd hap hot hsb2 hpl hal hfl hu2 ht
          go_wp2_with fail
          refine Hadd.out.mono ?_
          rintro e w5 ⟨rfl, r5, ht5, hst⟩
          have B5 : Hid (Below w.heap.size w w5) := Lib.hid (((Chg.of_below B4.out).trans hst.chg (S := fun _ => False) (fun k hk hT => by
            rcases hT with h | h
            · omega
            · have := R4.out _ h.symm; omega)).below (fun k hk => hk.elim) (Nat.le_refl _))
          have R5 : Hid (∀ b, r5 = some b → w.heap.size ≤ b) := Lib.hid (fun b hb => by
            rcases hst.row with h | ⟨gg, h, h2⟩
            · rw [h] at hb; exact R4.out b hb
            · rw [h] at hb; injection hb with hb; have := B4.out.size; omega)
          have T5 := Lib.hid ht5
          clear ht5 hst
          go_wp2_with fail
          go_roundw
          case rel => exact ⟨j + 1, r5, by omega, by go_num, T5.out, R5.out, B5.out⟩
          case measure => simp [intOf]; omega
        · obtain rfl : j = l.length := by omega
          have djj : decide (l.length < l.length) = false := by simp
          have T6 : Hid (TabIs wr 0 w.heap.size r2 (addsE [] (mem ++ (lv.take (k + 1)).flatten.flatten))) := Lib.hid (by have := T4.out; rw [List.take_of_length_le (Nat.le_refl _), List.append_assoc, ← take_next Hl.out] at this; exact this)
          clear hjl
          go_wp2_with fail
          go_roundw
          case rel => exact ⟨k + 1, r2, by omega, by go_num, T6.out, R4.out, B4.out⟩
          case measure => simp [intOf]; omega
    · obtain rfl : k = lv.length := by omega
      have dkk : decide (lv.length < lv.length) = false := by simp
      have T6 : Hid (TabIs wr 0 w.heap.size r1 (allX mem lv)) := Lib.hid (by have := TT.out; rw [List.take_of_length_le (Nat.le_refl _)] at this; exact this)
      clear hlt
      go_wp2_with fail
      go_ret
      exact ⟨r1, rfl, T6.out, RR.out, BB.out⟩
end Go.Proofs.Ytfjilngofdahgaa
