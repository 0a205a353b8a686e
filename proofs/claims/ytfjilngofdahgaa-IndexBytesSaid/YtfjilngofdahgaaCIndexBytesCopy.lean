/- copy of elements of many cells; rows made longer. No program here. -/
import Derived.Test.YtfjilngofdahgaaJIndexBytes1
import Derived.Shelf.Spec.SlicesInsert
import Derived.Lib.AppendZerosOnto

namespace Go.Proofs.Ytfjilngofdahgaa
open Go.RowKit
set_option linter.unusedVariables false

theorem run_copy_rows {P : Program} (w : World) (dT sT ty elem : TypeId) (i : TypeInfo) (size b o dLen dCap : Nat) (a : Addr) (sLen sCap : Nat) (cs : List Value)
    (hu : P.underlying dT = some (.slice elem)) (hi : P.info? elem = some i) (hsz : i.size = size) (hn : cs.length = Nat.min sLen dLen * size)
    (hsrc : ∀ j v, cs[j]? = some v → w.cell? (a.add j) = some v) (hc : ∀ j, j < cs.length → (w.cell? ⟨b, o + j, none⟩).isSome = true) (hf : ∀ j, j < cs.length → w.frozen? ⟨b, o + j, none⟩ = false) (h1 : ∀ v ∈ cs, v.oneCell' = true) :
    (Builtin.copy_ #[dT, sT] ty #[.slice (some ⟨b, o, none⟩) dLen dCap, .slice (some a) sLen sCap]).run P w = .ok (goInt (Nat.min sLen dLen)) (w.setCells b o cs) := by
  have hl := run_loadCells_list (P := P) w a cs hsrc
  have hst := run_storeCells_cells (P := P) b o cs 0 w (by simpa using hc) (by simpa using hf) h1
  simp [Builtin.copy_, run_underlying hu, Builtin.lenOf, Builtin.firstCells, sizeOf, typeInfo, hi, hsz, ← hn, hl, hst]

/-! ### rows -/
/-- cells of a row set one by one -/
def setM (xs : List Value) : Nat → List Value → List Value
  | _, [] => xs
  | o, v :: r => setM (xs.set o v) (o + 1) r
theorem setM_eq : ∀ (r xs : List Value) (o : Nat), o + r.length ≤ xs.length → setM xs o r = xs.take o ++ r ++ xs.drop (o + r.length)
  | [], xs, o, _ => by simp [setM]
  | v :: r, xs, o, h => by
    simp only [List.length_cons] at h
    rw [setM, setM_eq r (xs.set o v) (o + 1) (by simp; omega)]
    simp only [List.length_cons]
    rw [List.drop_set_of_lt (by omega), show o + 1 + r.length = o + (r.length + 1) from by omega]
    have : (xs.set o v).take (o + 1) = xs.take o ++ [v] := by
      rw [List.take_add_one, List.take_set_of_le (Nat.le_refl _), List.getElem?_set_self (by omega)]; rfl
    rw [this]
    simp
theorem own_setM {e : TypeId} {base size g n cap : Nat} : ∀ (r xs : List Value) (o : Nat) (w : World), w.ownsRow base e size (.slice (some ⟨g, 0, none⟩) n cap) n xs →
    (w.setCells g o r).ownsRow base e size (.slice (some ⟨g, 0, none⟩) n cap) n (setM xs o r) ∧ w.grownBy (w.setCells g o r) (some g)
  | [], xs, o, w, h => ⟨h, World.grownBy.refl w _⟩
  | v :: r, xs, o, w, h => by
    obtain ⟨h1, h2⟩ := h.stored o v
    obtain ⟨h3, h4⟩ := own_setM r (xs.set o v) (o + 1) _ h1
    refine ⟨h3, ⟨h4.os.trans h2.os, h4.tape.trans h2.tape, h4.output.trans h2.output, Nat.le_trans h2.size h4.size, fun k hk hn => (h4.block k (Nat.lt_of_lt_of_le hk h2.size) hn).trans (h2.block k hk hn)⟩⟩
/-- a row of one's own has room: as many elements more as there is room for -/
theorem own_long {w : World} {base : Nat} {e : TypeId} {size g n m cap : Nat} {xs : List Value} (h : w.ownsRow base e size (.slice (some ⟨g, 0, none⟩) n cap) n xs) (hm : m ≤ cap) (hn : n ≤ m) :
    ∃ ys, w.ownsRow base e size (.slice (some ⟨g, 0, none⟩) m cap) m (xs ++ ys) ∧ ys.length = (m - n) * size := by
  rcases h.2 with ⟨h0, _⟩ | ⟨g', cap', cur, h', hb, hg, hnc, hcm, hcs, htake⟩
  · cases h0
  · simp only [Value.slice.injEq, Option.some.injEq, Addr.mk.injEq, and_true, true_and] at h'
    obtain ⟨rfl, rfl⟩ := h'
    have h1 : n * size ≤ m * size := Nat.mul_le_mul_right _ hn
    have h2 : m * size ≤ cap * size := Nat.mul_le_mul_right _ hm
    have h3 : (cur.toList.drop (n * size)).take ((m - n) * size) = (cur.toList.take (m * size)).drop (n * size) := by
      rw [List.drop_take, Nat.sub_mul]
    have h4 : cur.toList.take (m * size) = xs ++ (cur.toList.drop (n * size)).take ((m - n) * size) := by
      rw [← htake, h3]
      conv => lhs; rw [← List.take_append_drop (n * size) (cur.toList.take (m * size))]
      rw [List.take_take, Nat.min_eq_left h1]
    have h5 : ((cur.toList.drop (n * size)).take ((m - n) * size)).length = (m - n) * size := by
      rw [List.length_take, List.length_drop, Array.length_toList, hcs, Nat.sub_mul]
      omega
    refine ⟨(cur.toList.drop (n * size)).take ((m - n) * size), ⟨?_, .inr ⟨g, cap, cur, rfl, hb, hg, hm, hcm, hcs, h4⟩⟩, h5⟩
    rw [List.length_append, h5, h.1, ← Nat.add_mul]
    congr 1
    omega
/-- what a row of one's own is: a block -/
theorem own_block {w : World} {base : Nat} {e : TypeId} {size g n cap : Nat} {xs : List Value} (h : w.ownsRow base e size (.slice (some ⟨g, 0, none⟩) n cap) n xs) :
    base ≤ g ∧ n ≤ cap ∧ cap ≤ maxLen ∧ ∃ cur : Array Value, w.heap[g]? = some (.cells cur e (0, 0)) ∧ cur.size = cap * size ∧ cur.toList.take (n * size) = xs := by
  rcases h.2 with ⟨h0, _⟩ | ⟨g', cap', cur, h', hb, hg, hnc, hcm, hcs, htake⟩
  · cases h0
  · simp only [Value.slice.injEq, Option.some.injEq, Addr.mk.injEq, and_true, true_and] at h'
    obtain ⟨rfl, rfl⟩ := h'
    exact ⟨hb, hnc, hcm, cur, hg, hcs, htake⟩
/-- a row made longer by zeros, in a new block -/
theorem own_zeros (w : World) (base : Nat) (e : TypeId) (size n m G : Nat) (xs : List Value) (z : Value) (hz : z.cells.size = size) (hx : xs.length = n * size) (hG : n + m ≤ G) (hGm : G ≤ maxLen) (hb : base ≤ w.heap.size) :
    (w.alloc (.cells (xs.toArray ++ Builtin.zeroCells z.cells m ++ Builtin.zeroCells z.cells (G - (n + m))) e)).ownsRow base e size (.slice (some ⟨w.heap.size, 0, none⟩) (n + m) G) (n + m) (xs ++ (Builtin.zeroCells z.cells m).toList) := by
  have hzc : ∀ k, (Builtin.zeroCells z.cells k).size = k * size := fun k => by simp [Builtin.zeroCells, hz]
  refine ⟨by rw [List.length_append, hx, Array.length_toList, hzc, ← Nat.add_mul], .inr ⟨w.heap.size, G, _, rfl, hb, heap_alloc_new w _, hG, hGm, ?_, ?_⟩⟩
  · simp only [Array.size_append, hzc, List.size_toArray, hx]
    rw [← Nat.add_mul, ← Nat.add_mul]
    congr 1
    omega
  · simp only [Array.toList_append]
    rw [List.take_left' (by rw [List.length_append, hx, Array.length_toList, hzc, ← Nat.add_mul])]
end Go.Proofs.Ytfjilngofdahgaa
