/- What stands below a block number is as it was, and of what stands above it all but a set of blocks. No program here. -/
import Derived.Test.YtfkkcgdniepgoaaGreatJTableMerges8
import Derived.Test.YtfkkcgdniepgoaaGreatJTableMerges1

namespace Go.Proofs.YtfkkcgdniepgoaaGreat
open Go.RowKit
set_option linter.unusedVariables false

/-- the blocks in which these lists lie -/
def OwnS (vs : List Value) (g : Nat) : Prop := ∃ (i : Nat) (v : Value), vs[i]? = some v ∧ v.ownBlock = some g
structure BelowS (S : Nat → Prop) (B : Nat) (w w' : World) : Prop where
  below : Below B w w'
  keep : ∀ g, g < w.heap.size → ¬ S g → w'.heap[g]? = w.heap[g]?
section
variable {S : Nat → Prop} {B : Nat} {w w1 w2 : World}
theorem BelowS.size (h : BelowS S B w w1) : w.heap.size ≤ w1.heap.size := h.below.size
theorem BelowS.refl (S : Nat → Prop) (B : Nat) (w : World) : BelowS S B w w := ⟨Below.refl _ _, fun _ _ _ => rfl⟩
theorem BelowS.next (h : BelowS S B w w1) (h2 : Below w1.heap.size w1 w2) (hB : B ≤ w1.heap.size) : BelowS S B w w2 :=
  ⟨h.below.trans (h2.mono hB), fun g hg hn => (h2.block g (Nat.lt_of_lt_of_le hg h.size)).trans (h.keep g hg hn)⟩
theorem BelowS.drewN (h : BelowS S B w w1) (n : Nat) : BelowS S B w (w1.drewN n) := ⟨below_drewN h.below n, h.keep⟩
theorem BelowS.alloc (h : BelowS S B w w1) (hB : B ≤ w1.heap.size) (o : Obj) : BelowS S B w (w1.alloc o) := h.next ((Below.refl _ _).alloc (Nat.le_refl _) o) hB
theorem BelowS.grown {row : Option Nat} (h : BelowS S B w w1) (hg : w1.grownBy w2 row) (hB : B ≤ w1.heap.size) (hb : ∀ b, row = some b → B ≤ b) (hs : ∀ b, row = some b → S b ∨ w.heap.size ≤ b) : BelowS S B w w2 :=
  ⟨h.below.grown hg hB hb, fun g hlt hn => (hg.block g (Nat.lt_of_lt_of_le hlt h.size) (fun e => by
    rcases hs g e.symm with h1 | h1
    · exact hn h1
    · omega)).trans (h.keep g hlt hn)⟩
theorem BelowS.setCell (h : BelowS S B w w1) {p : Addr} (hp : B ≤ p.block) (hs : S p.block) (u : Value) : BelowS S B w (w1.setCell p u) :=
  ⟨h.below.setCell hp u, fun g hlt hn => (Below.heap_setCell w1 p u g (fun e => hn (e ▸ hs))).trans (h.keep g hlt hn)⟩
theorem own_keepS {b n c : Nat} {e : TypeId} {v : Value} {xs : List Value} (h : w.ownsRow b e c v n xs) (hk : BelowS S B w w1) (hn : ∀ g, v.ownBlock = some g → ¬ S g) : w1.ownsRow b e c v n xs := by
  refine ⟨h.1, ?_⟩
  rcases h.2 with h0 | ⟨g, cap, cur, hv, hb, hh, rest⟩
  · exact .inl h0
  · exact .inr ⟨g, cap, cur, hv, hb, (hk.keep g (Array.getElem?_eq_some_iff.1 hh).1 (hn g (by rw [hv]; rfl))).trans hh, rest⟩
theorem Lists.keepS {base c : Nat} {e : TypeId} {vs : List Value} {xss : List (List Value)} (h : Lists w base e c vs xss) (hk : BelowS S B w w1) (hn : ∀ (i : Nat) (v : Value) (g : Nat), vs[i]? = some v → v.ownBlock = some g → ¬ S g) : Lists w1 base e c vs xss :=
  ⟨h.len, fun i v xs hv hx => by
    obtain ⟨n, ho⟩ := h.own i v xs hv hx
    exact ⟨n, own_keepS ho hk (fun g hg => hn i v g hv hg)⟩, h.apart⟩
theorem Views.keepS {c : Nat} {vs us : List Value} {xss : List (List Value)} (h : Views w c vs us xss) (hk : BelowS S B w w1) (hn : ∀ (i : Nat) (v : Value) (g : Nat), vs[i]? = some v → v.ownBlock = some g → ¬ S g) : Views w1 c vs us xss :=
  ⟨h.form, fun j v xs g p u hv hx hg hp => (World.cell?_of_block (hk.keep _ (by rw [add_block]; exact h.small j v g hv hg) (by rw [add_block]; exact hn j v g hv hg))).trans (h.cell j v xs g p u hv hx hg hp), h.one, fun j v g hv hg => Nat.lt_of_lt_of_le (h.small j v g hv hg) hk.size⟩
theorem blk_keepS {g : Nat} {t : TypeId} {cs : Array Value} (h : BlkIs w g t cs) (hk : BelowS S B w w1) (hn : ¬ S g) : BlkIs w1 g t cs := by
  exact (hk.keep g h.lt hn).trans h
/-- lists of unlike elements -/
theorem lists_not {b1 b2 c1 c2 : Nat} {e1 e2 : TypeId} {vs us : List Value} {xss yss : List (List Value)} (h : Lists w b1 e1 c1 vs xss) (h2 : Lists w b2 e2 c2 us yss) (hne : e1 ≠ e2) : ∀ (i : Nat) (v : Value) (g : Nat), vs[i]? = some v → v.ownBlock = some g → ¬ OwnS us g := by
  rintro i v g hv hg ⟨j, u, hu, hg2⟩
  obtain ⟨xs, hx⟩ : ∃ xs, xss[i]? = some xs := ⟨_, List.getElem?_eq_getElem (by rw [← h.len]; exact (List.getElem?_eq_some_iff.1 hv).1)⟩
  obtain ⟨ys, hy⟩ : ∃ ys, yss[j]? = some ys := ⟨_, List.getElem?_eq_getElem (by rw [← h2.len]; exact (List.getElem?_eq_some_iff.1 hu).1)⟩
  obtain ⟨n, ho⟩ := h.own i v xs hv hx
  obtain ⟨m, ho2⟩ := h2.own j u ys hu hy
  exact rows_apart ho ho2 hne g hg hg2
theorem own_not {b1 b2 c1 c2 n : Nat} {e1 e2 : TypeId} {v : Value} {xs : List Value} {us : List Value} {yss : List (List Value)} (h : w.ownsRow b1 e1 c1 v n xs) (h2 : Lists w b2 e2 c2 us yss) (hne : e1 ≠ e2) : ∀ g, v.ownBlock = some g → ¬ OwnS us g := by
  rintro g hg ⟨j, u, hu, hg2⟩
  obtain ⟨ys, hy⟩ : ∃ ys, yss[j]? = some ys := ⟨_, List.getElem?_eq_getElem (by rw [← h2.len]; exact (List.getElem?_eq_some_iff.1 hu).1)⟩
  obtain ⟨m, ho2⟩ := h2.own j u ys hu hy
  exact rows_apart h ho2 hne g hg hg2
end
end Go.Proofs.YtfkkcgdniepgoaaGreat
