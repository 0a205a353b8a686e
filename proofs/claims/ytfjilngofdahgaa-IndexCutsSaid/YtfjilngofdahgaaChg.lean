/- What a call may have changed, block by block. No program here. -/
import Derived.Test.YtfjilngofdahgaaSlice
import Derived.Laws.OwnMore
namespace Go.Proofs.Ytfjilngofdahgaa
open Go.RowKit

/-- of the blocks that were there just those of S may have been written -/
structure Chg (S : Nat → Prop) (w w' : World) : Prop where
  os : w'.os = w.os
  tape : w'.tape = w.tape
  output : w'.output = w.output
  size : w.heap.size ≤ w'.heap.size
  block : ∀ k, k < w.heap.size → ¬ S k → w'.heap[k]? = w.heap[k]?

section
variable {S T : Nat → Prop} {w w' w'' : World}
theorem Chg.refl (S : Nat → Prop) (w : World) : Chg S w w := ⟨rfl, rfl, rfl, Nat.le_refl _, fun _ _ _ => rfl⟩
theorem Chg.trans (h : Chg S w w') (h2 : Chg T w' w'') (hT : ∀ k, k < w.heap.size → T k → S k) : Chg S w w'' :=
  ⟨h2.os.trans h.os, h2.tape.trans h.tape, h2.output.trans h.output, Nat.le_trans h.size h2.size, fun k hk hn => (h2.block k (Nat.lt_of_lt_of_le hk h.size) (fun ht => hn (hT k hk ht))).trans (h.block k hk hn)⟩
theorem Chg.more (h : Chg S w w') (hT : ∀ k, k < w.heap.size → S k → T k) : Chg T w w' := ⟨h.os, h.tape, h.output, h.size, fun k hk hn => h.block k hk (fun hs => hn (hT k hk hs))⟩
theorem Chg.drew (h : Chg S w w') : Chg S w w'.drew := ⟨h.os, h.tape, h.output, h.size, h.block⟩
theorem Chg.drewN (h : Chg S w w') (n : Nat) : Chg S w (w'.drewN n) := ⟨h.os, h.tape, h.output, h.size, h.block⟩
theorem Chg.undrew (h : Chg S w.drew w') : Chg S w w' := ⟨h.os, h.tape, h.output, h.size, h.block⟩
theorem Chg.alloc (h : Chg S w w') (o : Obj) : Chg S w (w'.alloc o) :=
  ⟨h.os, h.tape, h.output, Nat.le_trans h.size (by simp), fun k hk hn => (Below.heap_alloc _ _ _ (Nat.lt_of_lt_of_le hk h.size)).trans (h.block k hk hn)⟩
theorem Chg.set (h : Chg S w w') {a : Addr} (ha : a.block < w.heap.size → S a.block) (u : Value) : Chg S w (w'.setCell a u) :=
  ⟨h.os, h.tape, h.output, by simpa [World.setCell] using h.size, fun k hk hn => (Below.heap_setCell _ _ _ _ (fun e => hn (by subst e; exact ha hk))).trans (h.block k hk hn)⟩
theorem Chg.grown (h : Chg S w w') {row : Option Nat} (hg : w'.grownBy w'' row) (hr : ∀ k, row = some k → k < w.heap.size → S k) : Chg S w w'' :=
  ⟨hg.os.trans h.os, hg.tape.trans h.tape, hg.output.trans h.output, Nat.le_trans h.size hg.size, fun k hk hn =>
    (hg.block k (Nat.lt_of_lt_of_le hk h.size) (fun e => hn (hr k e.symm hk))).trans (h.block k hk hn)⟩
theorem Chg.under {B : Nat} (h : Chg S w w') (hb : Below B w' w'') (hB : w.heap.size ≤ B) : Chg S w w'' :=
  ⟨hb.os.trans h.os, hb.tape.trans h.tape, hb.output.trans h.output, Nat.le_trans h.size hb.size, fun k hk hn => (hb.block k (Nat.lt_of_lt_of_le hk hB)).trans (h.block k hk hn)⟩
theorem Chg.of_below (hb : Below w.heap.size w w') : Chg S w w' := ⟨hb.os, hb.tape, hb.output, hb.size, fun k hk _ => hb.block k hk⟩
theorem Chg.below {B : Nat} (h : Chg S w w') (hS : ∀ k, S k → B ≤ k) (hB : B ≤ w.heap.size) : Below B w w' :=
  ⟨h.os, h.tape, h.output, h.size, fun k hk => h.block k (by omega) (fun hs => by have := hS k hs; omega)⟩
theorem BlkIs.chg {g : Nat} {t : TypeId} {cs : Array Value} (h : BlkIs w g t cs) (hc : Chg S w w') (hg : ¬ S g) : BlkIs w' g t cs := (hc.block g h.lt hg).trans h
theorem own_chg {base : Nat} {e : TypeId} {size n : Nat} {v : Value} {xs : List Value} (h : w.ownsRow base e size v n xs) (hc : Chg S w w') (hv : ∀ k, v.ownBlock = some k → ¬ S k) : w'.ownsRow base e size v n xs := by
  have hlt := h.lt
  refine ⟨h.1, ?_⟩
  rcases h.2 with h0 | ⟨g', cap, cur, hvv, hbg, hh, rest⟩
  · exact .inl h0
  · have hk : v.ownBlock = some g' := by rw [hvv]; rfl
    exact .inr ⟨g', cap, cur, hvv, hbg, (hc.block g' (hlt g' hk).2 (hv g' hk)).trans hh, rest⟩
theorem SlR.chg {B size n : Nat} {A : Option Addr} {xs : List Value} (h : SlR w B size A n xs) (hB : B ≤ w.heap.size) (hc : Chg S w w') (hS : ∀ ad, A = some ad → ¬ S ad.block) : SlR w' B size A n xs :=
  ⟨h.len, fun hn => by
    obtain ⟨ad, e, hb, hcell⟩ := h.cells hn
    refine ⟨ad, e, hb, fun j u hu => ?_⟩
    have hblk := hc.block ad.block (by omega) (hS ad e)
    rw [← hcell j u hu]
    exact World.cell?_of_block (by rw [add_block]; exact hblk)⟩
end
end Go.Proofs.Ytfjilngofdahgaa
