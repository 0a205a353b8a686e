/- Two rows of the call's own, of unlike element types. Masks. No program here. -/
import Derived.Test.YtgaeoglhammjiaaSlice
namespace Go.Proofs.Ytgaeoglhammjiaa
open Go.RowKit

theorem rows_apart {w : World} {b1 b2 : Nat} {e1 e2 : TypeId} {s1 s2 n1 n2 : Nat} {v1 v2 : Value} {x1 x2 : List Value} (h1 : w.ownsRow b1 e1 s1 v1 n1 x1) (h2 : w.ownsRow b2 e2 s2 v2 n2 x2) (hne : e1 ≠ e2) :
    ∀ g, v1.ownBlock = some g → v2.ownBlock ≠ some g := by
  intro g hg1 hg2
  rcases h1.2 with ⟨rfl, _⟩ | ⟨g1, c1, cur1, rfl, _, hh1, _⟩
  · simp [Value.ownBlock] at hg1
  rcases h2.2 with ⟨rfl, _⟩ | ⟨g2, c2, cur2, rfl, _, hh2, _⟩
  · simp [Value.ownBlock] at hg2
  obtain rfl : g1 = g := by simpa [Value.ownBlock] using hg1
  obtain rfl : g2 = g1 := by simpa [Value.ownBlock] using hg2
  rw [hh1] at hh2
  injection hh2 with hh2
  injection hh2 with _ ht
  exact hne ht
theorem own_grown {w w' : World} {base : Nat} {e : TypeId} {size n : Nat} {v : Value} {xs : List Value} {row : Option Nat} (h : w.ownsRow base e size v n xs) (hg : w.grownBy w' row) (hr : ∀ g, v.ownBlock = some g → row ≠ some g) : w'.ownsRow base e size v n xs := by
  refine ⟨h.1, ?_⟩
  rcases h.2 with h0 | ⟨g', cap, cur, hv, hbg, hh, rest⟩
  · exact .inl h0
  · have hlt : g' < w.heap.size := (Array.getElem?_eq_some_iff.1 hh).1
    have hne := hr g' (by rw [hv]; rfl)
    exact .inr ⟨g', cap, cur, hv, hbg, (hg.block g' hlt (Ne.symm hne)).trans hh, rest⟩

theorem mask_range (a : Int) (m : Nat) (hm : m < 4611686018427387904) : 0 ≤ bits .and .i64 a (m : Int) ∧ bits .and .i64 a (m : Int) ≤ (m : Int) := by
  have hz : (BitVec.ofInt 64 a &&& BitVec.ofInt 64 (m : Int)).toNat ≤ m := by
    rw [BitVec.toNat_and]
    refine Nat.le_trans Nat.and_le_right ?_
    rw [show BitVec.ofInt 64 (m : Int) = BitVec.ofNat 64 m from by simp, BitVec.toNat_ofNat]
    exact Nat.mod_le _ _
  show 0 ≤ IntKind.i64.wrap ((BitVec.ofInt 64 a &&& BitVec.ofInt 64 (m : Int)).toNat : Int) ∧ IntKind.i64.wrap ((BitVec.ofInt 64 a &&& BitVec.ofInt 64 (m : Int)).toNat : Int) ≤ (m : Int)
  rw [IntWalk.i64_in _ (by omega)]
  omega
end Go.Proofs.Ytgaeoglhammjiaa
