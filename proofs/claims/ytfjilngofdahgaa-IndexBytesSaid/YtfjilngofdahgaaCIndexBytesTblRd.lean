/- chapter 13: where Open stands between two entries. -/
import Derived.Test.YtfjilngofdahgaaCIndexBytesTblBuild
import Derived.Test.YtfjilngofdahgaaCIndexBytesInG64
import Derived.Test.YtfjilngofdahgaaCIndexBytesInEnd
import Derived.Test.YtfjilngofdahgaaCIndexBytesTextG

namespace Go.Proofs.Ytfjilngofdahgaa
open Go.RowKit
set_option maxHeartbeats 1000000
set_option linter.unusedVariables false

theorem inTake_rest (n : Nat) (bs : List UInt8) (e : Int) : (inTake n bs e).2.1.length ≤ bs.length := by
  unfold inTake
  split
  · exact Nat.le_refl _
  · split
    · exact Nat.le_refl _
    · simp
theorem inTake_rest0 (n : Nat) (bs : List UInt8) (e : Int) (h : (inTake n bs e).2.2 = 0) : e = 0 ∧ (inTake n bs e).2.1.length + n = bs.length := by
  unfold inTake at h ⊢
  split at h
  · next h1 => exact absurd h h1
  · next h1 =>
    split at h
    · cases h
    · next h2 => rw [if_neg h1, if_neg h2]; refine ⟨Classical.byContradiction fun q => h1 q, ?_⟩; simp; omega

structure RdAt (w0 w : World) (bI g T : Nat) (v : Value) (acc : List En) (b : List UInt8) (x : Int) : Prop where
  inn : InIs w bI g b x
  tab : BlkIs w T 120 #[v]
  own : w.ownsRow w0.heap.size 27 3 v acc.length (enVs acc)
  bel : Below w0.heap.size w0 w
theorem RdAt.step {w0 w w' : World} {bI g T : Nat} {v : Value} {acc : List En} {b b' : List UInt8} {x x' : Int} (h : RdAt w0 w bI g T v acc b x) (hI : InIs w' bI g b' x') (hg : w.grownBy w' (some g)) (hgT : T ≠ g) (hb : w0.heap.size ≤ bI) : RdAt w0 w' bI g T v acc b' x' :=
  ⟨hI, h.tab.keptBy hg hgT, h.own.kept hg (.inr (own_ne_blk h.own h.inn.2 (by decide))), h.bel.grown hg h.bel.size (fun k hk => by injection hk with hk; rw [← hk]; exact Nat.le_trans hb h.inn.1)⟩
theorem RdAt.below {w0 w w' : World} {bI g T : Nat} {v : Value} {acc : List En} {b : List UInt8} {x : Int} (h : RdAt w0 w bI g T v acc b x) (hb : Below w.heap.size w w') : RdAt w0 w' bI g T v acc b x :=
  ⟨h.inn.below hb h.inn.lt, h.tab.below hb h.tab.lt, own_below h.own hb (fun q hq => (h.own.lt q hq).2), h.bel.trans (hb.mono h.bel.size)⟩
theorem RdAt.alloc {w0 w : World} {bI g T : Nat} {v : Value} {acc : List En} {b : List UInt8} {x : Int} (h : RdAt w0 w bI g T v acc b x) (o : Obj) : RdAt w0 (w.alloc o) bI g T v acc b x := h.below ((Below.refl _ _).alloc (Nat.le_refl _) o)
theorem RdAt.drewd {w0 w : World} {bI g T : Nat} {v : Value} {acc : List En} {b : List UInt8} {x : Int} (h : RdAt w0 w bI g T v acc b x) : RdAt w0 w.drew bI g T v acc b x := h.below (below_drewN (Below.refl w.heap.size w) 1)
theorem RdAt.app {w0 w w' : World} {bI g T n : Nat} {v v' : Value} {acc acc' : List En} {b : List UInt8} {x : Int} (h : RdAt w0 w bI g T v acc b x) (hown : w'.ownsRow w0.heap.size 27 3 v' n (enVs acc')) (hn : n = acc'.length) (hg : w.grownBy w' v.ownBlock) (hgT : T ≠ g) (hT : w0.heap.size ≤ T) :
    RdAt w0 (w'.setCell ⟨T, 0, none⟩ v') bI g T v' acc' b x := by
  subst hn
  have ht := h.tab.grown hg (fun e => own_ne_blk h.own h.tab (by decide) e.symm)
  have hi : InIs w' bI g b x := ⟨h.inn.1, h.inn.2.grown hg (fun e => own_ne_blk h.own h.inn.2 (by decide) e.symm)⟩
  have hs := grown_set w' T 0 v'
  exact ⟨⟨hi.1, hi.2.keptBy hs (fun e => hgT e.symm)⟩, ht.put 0 v', hown.kept hs (.inr (own_ne_blk hown ht (by decide))), (h.bel.grown hg h.bel.size (fun k hk => (h.own.lt k hk).1)).setCell (p := ⟨T, 0, none⟩) hT v'⟩
/-- one entry is read -/
theorem rd_round {q b : List UInt8} {acc : List En} {j : Nat} (h : rdT q = (acc ++ (rdEns j b 0).1, (rdEns j b 0).2)) (hj : 0 < j) :
    rdT q = ((acc ++ [(i64L (inTake 8 b 0).1, i64L (inTake 8 (inTake 8 b 0).2.1 (inTake 8 b 0).2.2).1, i64L (inTake 8 (inTake 8 (inTake 8 b 0).2.1 (inTake 8 b 0).2.2).2.1 (inTake 8 (inTake 8 b 0).2.1 (inTake 8 b 0).2.2).2.2).1)]) ++ (rdEns (j - 1) (inTake 8 (inTake 8 (inTake 8 b 0).2.1 (inTake 8 b 0).2.2).2.1 (inTake 8 (inTake 8 b 0).2.1 (inTake 8 b 0).2.2).2.2).2.1 (inTake 8 (inTake 8 (inTake 8 b 0).2.1 (inTake 8 b 0).2.2).2.1 (inTake 8 (inTake 8 b 0).2.1 (inTake 8 b 0).2.2).2.2).2.2).1,
      (rdEns (j - 1) (inTake 8 (inTake 8 (inTake 8 b 0).2.1 (inTake 8 b 0).2.2).2.1 (inTake 8 (inTake 8 b 0).2.1 (inTake 8 b 0).2.2).2.2).2.1 (inTake 8 (inTake 8 (inTake 8 b 0).2.1 (inTake 8 b 0).2.2).2.1 (inTake 8 (inTake 8 b 0).2.1 (inTake 8 b 0).2.2).2.2).2.2).2) := by
  obtain ⟨i, rfl⟩ : ∃ i, j = i + 1 := ⟨j - 1, by omega⟩
  rw [rdEns, if_pos rfl] at h
  dsimp only at h
  rw [h, List.append_assoc]
  rfl
theorem rd_len1 (b : List UInt8) : (inTake 8 (inTake 8 (inTake 8 b 0).2.1 (inTake 8 b 0).2.2).2.1 (inTake 8 (inTake 8 b 0).2.1 (inTake 8 b 0).2.2).2.2).2.1.length ≤ b.length :=
  Nat.le_trans (inTake_rest _ _ _) (Nat.le_trans (inTake_rest _ _ _) (inTake_rest _ _ _))
theorem rd_len0 (b : List UInt8) (h : (inTake 8 (inTake 8 (inTake 8 b 0).2.1 (inTake 8 b 0).2.2).2.1 (inTake 8 (inTake 8 b 0).2.1 (inTake 8 b 0).2.2).2.2).2.2 = 0) : (inTake 8 (inTake 8 (inTake 8 b 0).2.1 (inTake 8 b 0).2.2).2.1 (inTake 8 (inTake 8 b 0).2.1 (inTake 8 b 0).2.2).2.2).2.1.length + 24 = b.length := by
  have h3 := inTake_rest0 _ _ _ h
  have h2 := inTake_rest0 _ _ _ h3.1
  have h1 := inTake_rest0 _ _ _ h2.1
  omega
/-- the reading has ended -/
theorem rd_end {q b : List UInt8} {acc : List En} {j : Nat} {x : Int} (h : rdT q = (acc ++ (rdEns j b x).1, (rdEns j b x).2)) (hx : j = 0 ∨ x ≠ 0) : rdT q = (acc, b, x) := by
  have he : rdEns j b x = ([], b, x) := by
    cases j with
    | zero => rfl
    | succ j => rw [rdEns, if_neg (hx.resolve_left (by omega))]
  rw [h, he]; simp
end Go.Proofs.Ytfjilngofdahgaa
