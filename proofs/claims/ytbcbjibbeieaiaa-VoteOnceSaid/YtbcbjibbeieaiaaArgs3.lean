/- What a law's arguments are: slices of arrays of three integers. -/
import Derived.Test.YtbcbjibbeieaiaaArgs2
import Derived.Test.YtbcbjibbeieaiaaLaw21Once
namespace Go.Proofs.Ytbcbjibbeieaiaa
open Go.ChangeShapes Go.WideShapes Go.ChangeAt Go.RowKit

section
variable {H : Type} {enc : TypeId × Value → H} {P : Program} {w : World} {base : Nat} {spare : Nat → Bool} {held : Bool}
theorem arr3_form {t e : TypeId} {k : IntKind} {fuel : Nat} {cs : List Value} {y : DataW H × List MemPlace} (hu : P.underlying t = some (.array 3 e)) (he : P.underlying e = some (.int k)) (hc : P.cellsOf e = 1) (hC : P.cellsOf t = 3)
    (hf : DataW.trod enc P w base spare held fuel t cs = some y) : ∃ a : Int × Int × Int, cs = [.int k a.1, .int k a.2.1, .int k a.2.2] := by
  cases fuel with
  | zero => simp [DataW.trod] at hf
  | succ m =>
    rw [DataW.trod_step] at hf
    unfold DataW.trodStep at hf
    simp only [hu] at hf
    by_cases hl : cs.length = 3
    · obtain ⟨c0, c1, c2, rfl⟩ : ∃ c0 c1 c2, cs = [c0, c1, c2] := by
        match cs, hl with
        | [a, b, c], _ => exact ⟨a, b, c, rfl⟩
      rw [if_pos (by rw [hC]; rfl)] at hf
      simp only [Option.map_eq_some_iff] at hf
      obtain ⟨ys, hy, e1⟩ := hf
      obtain ⟨y0, h0⟩ := mapM_all _ _ hy 0 (List.mem_range.2 (by omega))
      obtain ⟨y1, h1⟩ := mapM_all _ _ hy 1 (List.mem_range.2 (by omega))
      obtain ⟨y2, h2⟩ := mapM_all _ _ hy 2 (List.mem_range.2 (by omega))
      obtain ⟨a0, e0, _, _⟩ := DataW.trod_int he h0
      obtain ⟨a1, e1, _, _⟩ := DataW.trod_int he h1
      obtain ⟨a2, e2, _, _⟩ := DataW.trod_int he h2
      rw [hc] at e0 e1 e2
      simp at e0 e1 e2
      exact ⟨(a0, a1, a2), by rw [e0, e1, e2]⟩
    · rw [if_neg (by rw [hC]; exact hl)] at hf
      cases hf
theorem tri_map : ∀ L : List (List Value), (∀ cs ∈ L, ∃ a : Int × Int × Int, cs = [.int .i64 a.1, .int .i64 a.2.1, .int .i64 a.2.2]) → ∃ qs : List (Int × Int × Int), qs.length = L.length ∧ triVs qs = L.flatten
  | [], _ => ⟨[], rfl, rfl⟩
  | b :: L, h => by
    obtain ⟨a, rfl⟩ := h b (by simp)
    obtain ⟨qs, h1, h2⟩ := tri_map L (fun x hx => h x (by simp [hx]))
    exact ⟨a :: qs, by rw [List.length_cons, List.length_cons, h1], by rw [List.flatten_cons, ← h2]; rfl⟩
theorem tris_in {t e i : TypeId} {A : Option Addr} {n cap : Nat} {d : DataW H} {p : List MemPlace} (ht : P.underlying t = some (.slice e)) (hu : P.underlying e = some (.array 3 i)) (he : P.underlying i = some (.int .i64)) (hc : P.cellsOf i = 1) (hC : P.cellsOf e = 3)
    (h : DataW.Trod enc P w 0 (fun _ => true) held t (.slice A n cap) d p) (hlt : ∀ x ∈ p, x.block < w.heap.size) :
    ∃ qs : List (Int × Int × Int), qs.length = n ∧ SlR w w.heap.size 3 A n (triVs qs) ∧ n ≤ cap ∧ cap ≤ maxLen := by
  obtain ⟨L, h1, h2, h3, h4, h5⟩ := slice_in ht hC (by omega) (fun cs => ∃ a : Int × Int × Int, cs = [.int .i64 a.1, .int .i64 a.2.1, .int .i64 a.2.2]) (fun _ _ _ hf => arr3_form hu he hc hC hf) h hlt
  obtain ⟨qs, h6, h7⟩ := tri_map L (fun cs hcs => (h3 cs hcs).1)
  exact ⟨qs, h6.trans h1, by rw [h7]; exact h2, h4, h5⟩
end
end Go.Proofs.Ytbcbjibbeieaiaa
