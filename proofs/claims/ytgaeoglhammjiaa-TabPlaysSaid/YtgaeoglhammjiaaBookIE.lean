/- A book that has lists of ints and of entries: it takes one more of either kind, and tells which are apart. -/
import Derived.Test.YtgaeoglhammjiaaApartIE
namespace Go.Proofs.Ytgaeoglhammjiaa
open Go.RowKit
set_option maxHeartbeats 1000000
set_option maxRecDepth 100000
set_option linter.unusedVariables false

def bookIE (tI wI tE wE : Value) : Array Value := #[.slice none 0 0, .slice none 0 0, tI, wI, .slice none 0 0, .slice none 0 0, tE, wE, .slice none 0 0, .slice none 0 0, .slice none 0 0, .slice none 0 0]
theorem bookIE_setI (tI wI tE wE tI' wI' : Value) : ((bookIE tI wI tE wE).setIfInBounds 2 tI').setIfInBounds 3 wI' = bookIE tI' wI' tE wE := rfl
theorem bookIE_setE (tI wI tE wE tE' wE' : Value) : ((bookIE tI wI tE wE).setIfInBounds 6 tE').setIfInBounds 7 wE' = bookIE tI wI tE' wE' := rfl

/-- the book at block g: no more than nI lists of ints, nE of entries, all in blocks ahead of H -/
structure BookAt (w0 w : World) (B0 g base nI nE H : Nat) (R : Nat → Prop) : Prop where
  ex : ∃ (tI wI tE wE : Value) (vI uI vE uE : List Value) (xI xE : List (List Value)), BlkIs w g 49 (bookIE tI wI tE wE) ∧ KindI w base tI wI vI uI xI ∧ KindE w base tE wE vE uE xE ∧ vI.length ≤ nI ∧ vE.length ≤ nE ∧
    (∀ (i : Nat) (u : Value) (b : Nat), vI[i]? = some u → u.ownBlock = some b → b < H) ∧ (∀ (i : Nat) (u : Value) (b : Nat), vE[i]? = some u → u.ownBlock = some b → b < H) ∧ (∀ (i : Nat) (u : Value) (b : Nat), vE[i]? = some u ∨ uE[i]? = some u → u.ownBlock = some b → ¬ R b)
  bel : Below B0 w0 w
  lo : B0 ≤ g
  gb : g < base
  size : base ≤ w.heap.size
theorem BookAt.lt {w0 w : World} {B0 g base nI nE H : Nat} {R : Nat → Prop} (h : BookAt w0 w B0 g base nI nE H R) : g < w.heap.size := Nat.lt_of_lt_of_le h.gb h.size
theorem BookAt.under {w0 w w' : World} {B0 g base nI nE H : Nat} {R : Nat → Prop} (h : BookAt w0 w B0 g base nI nE H R) (hb : Below w.heap.size w w') : BookAt w0 w' B0 g base nI nE H R := by
  obtain ⟨tI, wI, tE, wE, vI, uI, vE, uE, xI, xE, h1, h2, h3, h4, h5, h6, h7, h8⟩ := h.ex
  exact ⟨⟨tI, wI, tE, wE, vI, uI, vE, uE, xI, xE, h1.below hb h1.lt, h2.below hb (Nat.le_refl _), h3.below hb (Nat.le_refl _), h4, h5, h6, h7, h8⟩, h.bel.trans (hb.mono (Nat.le_trans h.lo (Nat.le_of_lt h.lt))), h.lo, h.gb, Nat.le_trans h.size hb.size⟩
theorem BookAt.far {w0 w : World} {B0 g base nI nE H H' : Nat} {R : Nat → Prop} (h : BookAt w0 w B0 g base nI nE H R) (hH : H ≤ H') : BookAt w0 w B0 g base nI nE H' R := by
  obtain ⟨tI, wI, tE, wE, vI, uI, vE, uE, xI, xE, h1, h2, h3, h4, h5, h6, h7, h8⟩ := h.ex
  exact ⟨⟨tI, wI, tE, wE, vI, uI, vE, uE, xI, xE, h1, h2, h3, h4, h5, fun i u b hu hb => Nat.lt_of_lt_of_le (h6 i u b hu hb) hH, fun i u b hu hb => Nat.lt_of_lt_of_le (h7 i u b hu hb) hH, h8⟩, h.bel, h.lo, h.gb, h.size⟩
theorem BookAt.more {w0 w : World} {B0 g base nI nE nI' nE' H : Nat} {R : Nat → Prop} (h : BookAt w0 w B0 g base nI nE H R) (h1 : nI ≤ nI') (h2 : nE ≤ nE') : BookAt w0 w B0 g base nI' nE' H R := by
  obtain ⟨tI, wI, tE, wE, vI, uI, vE, uE, xI, xE, k1, k2, k3, k4, k5, k6, k7, k8⟩ := h.ex
  exact ⟨⟨tI, wI, tE, wE, vI, uI, vE, uE, xI, xE, k1, k2, k3, Nat.le_trans k4 h1, Nat.le_trans k5 h2, k6, k7, k8⟩, h.bel, h.lo, h.gb, h.size⟩
theorem BookAt.new {w0 w : World} {B0 : Nat} (hb : Below B0 w0 w) (hB : B0 ≤ w.heap.size) (H : Nat) (R : Nat → Prop) : BookAt w0 (w.alloc (.cells (bookIE (.slice none 0 0) (.slice none 0 0) (.slice none 0 0) (.slice none 0 0)) 49)) B0 w.heap.size (w.heap.size + 1) 0 0 H R :=
  ⟨⟨_, _, _, _, [], [], [], [], [], [], BlkIs.new _ _ _, KindI.nil _ _, KindE.nil _ _, Nat.le_refl _, Nat.le_refl _, fun i u b h => by simp at h, fun i u b h => by simp at h, fun i u b h => by simp at h⟩, hb.alloc hB _, hB, Nat.lt_succ_self _, by simp⟩

/-- what a book does not touch when it takes a list -/
structure Spares (w w' : World) (g : Nat) (t : TypeId) : Prop where
  own : ∀ (e : TypeId) (c n b : Nat) (v : Value) (xs : List Value), e ≠ t → e ≠ 49 → w.ownsRow b e c v n xs → w'.ownsRow b e c v n xs
  blk : ∀ (e : TypeId) (q : Nat) (cs : Array Value), e ≠ t → e ≠ 49 → BlkIs w q e cs → BlkIs w' q e cs
  bel : Below g w w'
theorem spares_of {w w' : World} {g base b1 b2 c1 c2 n1 n2 : Nat} {t : TypeId} {cs : Array Value} {tv wv : Value} {x1 x2 : List Value} (hB : BlkIs w g 49 cs) (h1 : w.ownsRow b1 t c1 tv n1 x1) (h2 : w.ownsRow b2 t c2 wv n2 x2) (hbut : BelowBut base g w w') (hgb : g < base)
    (hk : ∀ b, b < w.heap.size → b ≠ g → tv.ownBlock ≠ some b → wv.ownBlock ≠ some b → w'.heap[b]? = w.heap[b]?) : Spares w w' g t := by
  have hbs : BelowS (fun b => b = g ∨ tv.ownBlock = some b ∨ wv.ownBlock = some b) g w w' := ⟨hbut.below (Nat.le_of_lt hgb) (Nat.le_refl _), fun b hb hn => hk b hb (fun e => hn (.inl e)) (fun e => hn (.inr (.inl e))) (fun e => hn (.inr (.inr e)))⟩
  refine ⟨fun e c n b v xs he hbk ho => own_keepS ho hbs (fun q hq hS => ?_), fun e q ds he hbk hq => blk_keepS hq hbs (fun hS => ?_), hbs.below⟩
  · rcases hS with h | h | h
    · subst h; exact own_ne_blk ho hB hbk hq
    · exact rows_apart ho h1 he q hq h
    · exact rows_apart ho h2 he q hq h
  · rcases hS with h | h | h
    · subst h
      have := hq.symm.trans hB
      injection this with this
      injection this with _ ht
      exact hbk ht
    · exact own_ne_blk h1 hq (fun h => he h.symm) h
    · exact own_ne_blk h2 hq (fun h => he h.symm) h

theorem bookE_add (w0 w : World) (B0 g base nI nE H H' n : Nat) (R : Nat → Prop) (v : Value) (ss : List En) (h : BookAt w0 w B0 g base nI nE H R) (hR : ∀ b, R b → b < H) (hv : w.ownsRow H 26 3 v n (enVs ss)) (hv2 : ∀ b, v.ownBlock = some b → b < H') (hv3 : H ≤ w.heap.size) (hn : n ≤ 1000000) (hnE : nE ≤ 200) (hbH : base ≤ H) (hHH : H ≤ H') :
    Calls Try.prog 23 #[.pointer (some ⟨g, 0, none⟩), v] w fun e w' => e = .returned (.tuple #[]) ∧ BookAt w0 w' B0 g base nI (nE + 1) H' R ∧ Spares w w' g 22 := by
  obtain ⟨tI, wI, tE, wE, vI, uI, vE, uE, xI, xE, h1, h2, h3, h4, h5, h6, h7, h8⟩ := h.ex
  refine (bookEntries_any g base n (bookIE tI wI tE wE) tE wE v vE uE xE (enVs ss) w h1 rfl rfl h.gb h.size h3 (own_base hv hbH) (fun i u b hu hb hb2 => by
    have := (hv.lt b hb).1
    have := h7 i u b hu hb2
    omega) (by omega) ⟨ss, rfl⟩ hn).mono ?_
  rintro e w' ⟨tv', wv', v2, rfl, k1, k2, k3, k4, k5⟩
  rw [bookIE_setE] at k1
  have hsp := spares_of h1 h3.rt h3.rw k3 h.gb k4
  have hbs : BelowS (fun b => b = g ∨ tE.ownBlock = some b ∨ wE.ownBlock = some b) g w w' := ⟨hsp.bel, fun b hb hn => k4 b hb (fun e => hn (.inl e)) (fun e => hn (.inr (.inl e))) (fun e => hn (.inr (.inr e)))⟩
  refine ⟨rfl, ⟨⟨tI, wI, tv', wv', vI, uI, vE ++ [v], uE ++ [v2], xI, xE ++ [enVs ss], k1, h2.keepS hbs (fun e c n b v xs he ho q hq hS => ?_), k2, h4, by rw [List.length_append]; simp; omega, fun i u b hu hb => Nat.lt_of_lt_of_le (h6 i u b hu hb) hHH, fun i u b hu hb => ?_, fun i u b hu hb => ?_⟩, h.bel.trans (hsp.bel.mono h.lo), h.lo, h.gb, Nat.le_trans h.size k3.size⟩, hsp⟩
  · rcases hS with h | h | h
    · subst h; exact own_ne_blk ho h1 (by rcases he with rfl | rfl <;> decide) hq
    · exact rows_apart ho h3.rt (by rcases he with rfl | rfl <;> decide) q hq h
    · exact rows_apart ho h3.rw (by rcases he with rfl | rfl <;> decide) q hq h
  · by_cases hi : i < vE.length
    · rw [List.getElem?_append_left hi] at hu
      exact Nat.lt_of_lt_of_le (h7 i u b hu hb) hHH
    · rw [List.getElem?_append_right (by omega)] at hu
      obtain ⟨hl, he⟩ := List.getElem?_eq_some_iff.1 hu
      simp at hl
      have : u = v := by rw [← he]; simp
      subst this
      exact hv2 b hb
  · have hone : ∀ (l : List Value) (x : Value), (l ++ [x])[i]? = some u → l[i]? = some u ∨ u = x := fun l x h => by
      by_cases hi : i < l.length
      · rw [List.getElem?_append_left hi] at h; exact .inl h
      · rw [List.getElem?_append_right (by omega)] at h
        obtain ⟨hl, he⟩ := List.getElem?_eq_some_iff.1 h
        simp at hl
        exact .inr (by rw [← he]; simp)
    rcases hu with hu | hu
    · rcases hone _ _ hu with h9 | h9
      · exact h8 i u b (.inl h9) hb
      · subst h9
        exact fun hr => by have := hR b hr; have := (hv.lt b hb).1; omega
    · rcases hone _ _ hu with h9 | h9
      · exact h8 i u b (.inr h9) hb
      · subst h9
        exact fun hr => by
          have h10 := k5 b hb
          have h11 := hR b hr
          have h12 := hv3
          omega

theorem bookI_add (w0 w : World) (B0 g base nI nE H H' n : Nat) (R : Nat → Prop) (v : Value) (ss : List Int) (h : BookAt w0 w B0 g base nI nE H R) (hv : w.ownsRow H 3 1 v n (intVs ss)) (hv2 : ∀ b, v.ownBlock = some b → b < H') (hn : n ≤ 1000000) (hnI : nI ≤ 200) (hbH : base ≤ H) (hHH : H ≤ H') :
    Calls Try.prog 24 #[.pointer (some ⟨g, 0, none⟩), v] w fun e w' => e = .returned (.tuple #[]) ∧ BookAt w0 w' B0 g base (nI + 1) nE H' R ∧ Spares w w' g 23 := by
  obtain ⟨tI, wI, tE, wE, vI, uI, vE, uE, xI, xE, h1, h2, h3, h4, h5, h6, h7, h8⟩ := h.ex
  refine (bookInts_any g base n (bookIE tI wI tE wE) tI wI v vI uI xI (intVs ss) w h1 rfl rfl h.gb h.size h2 (own_base hv hbH) (fun i u b hu hb hb2 => by
    have := (hv.lt b hb).1
    have := h6 i u b hu hb2
    omega) (by omega) ⟨ss, rfl⟩ hn).mono ?_
  rintro e w' ⟨tv', wv', v2, rfl, k1, k2, k3, k4, k5⟩
  rw [bookIE_setI] at k1
  have hsp := spares_of h1 h2.rt h2.rw k3 h.gb k4
  have hbs : BelowS (fun b => b = g ∨ tI.ownBlock = some b ∨ wI.ownBlock = some b) g w w' := ⟨hsp.bel, fun b hb hn => k4 b hb (fun e => hn (.inl e)) (fun e => hn (.inr (.inl e))) (fun e => hn (.inr (.inr e)))⟩
  refine ⟨rfl, ⟨⟨tv', wv', tE, wE, vI ++ [v], uI ++ [v2], vE, uE, xI ++ [intVs ss], xE, k1, k2, h3.keepS hbs (fun e c n b v xs he ho q hq hS => ?_), by rw [List.length_append]; simp; omega, h5, fun i u b hu hb => ?_, fun i u b hu hb => Nat.lt_of_lt_of_le (h7 i u b hu hb) hHH, h8⟩, h.bel.trans (hsp.bel.mono h.lo), h.lo, h.gb, Nat.le_trans h.size k3.size⟩, hsp⟩
  · rcases hS with h | h | h
    · subst h; exact own_ne_blk ho h1 (by rcases he with rfl | rfl <;> decide) hq
    · exact rows_apart ho h2.rt (by rcases he with rfl | rfl <;> decide) q hq h
    · exact rows_apart ho h2.rw (by rcases he with rfl | rfl <;> decide) q hq h
  · by_cases hi : i < vI.length
    · rw [List.getElem?_append_left hi] at hu
      exact Nat.lt_of_lt_of_le (h6 i u b hu hb) hHH
    · rw [List.getElem?_append_right (by omega)] at hu
      obtain ⟨hl, he⟩ := List.getElem?_eq_some_iff.1 hu
      simp at hl
      have : u = v := by rw [← he]; simp
      subst this
      exact hv2 b hb

theorem bookIE_apart (w0 w : World) (B0 g base nI nE H : Nat) (R : Nat → Prop) (h : BookAt w0 w B0 g base nI nE H R) (hI : nI ≤ 250) (hE : nE ≤ 250) :
    Calls Try.prog 30 #[.pointer (some ⟨g, 0, none⟩)] w fun e w' => e = .returned (.bool true) ∧ Below B0 w0 w' := by
  obtain ⟨tI, wI, tE, wE, vI, uI, vE, uE, xI, xE, h1, h2, h3, h4, h5, h6, h7, h8⟩ := h.ex
  refine (apartIE_any g base (bookIE tI wI tE wE) tI wI tE wE vI uI vE uE xI xE w h1 rfl rfl rfl rfl (fun i hi => by rcases hi with rfl | rfl | rfl | rfl <;> rfl) h.gb h.size h2 h3 (by omega) (by omega)).mono ?_
  rintro e w' ⟨rfl, hb⟩
  exact ⟨rfl, h.bel.trans (hb.mono (Nat.le_trans h.lo (Nat.le_of_lt h.gb)))⟩
end Go.Proofs.Ytgaeoglhammjiaa
