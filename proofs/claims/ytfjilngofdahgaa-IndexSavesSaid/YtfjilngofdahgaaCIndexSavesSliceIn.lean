/- Slices of elements of many cells that came in, as lists. -/
import Derived.Test.YtfjilngofdahgaaCIndexSavesStruct
import Derived.Deep.Slices

namespace Go.Proofs.Ytfjilngofdahgaa
open Go.ChangeShapes Go.WideShapes Go.ChangeAt Go.RowKit
set_option linter.unusedVariables false

theorem flatIn_len {c : Nat} : ∀ L : List (List Value), (∀ cs ∈ L, cs.length = c) → L.flatten.length = L.length * c
  | [], _ => by simp
  | a :: L, h => by
    rw [List.flatten_cons, List.length_append, flatIn_len L (fun x hx => h x (by simp [hx])), h a (by simp), List.length_cons, Nat.succ_mul, Nat.add_comm]
theorem flat_at {c : Nat} : ∀ (L : List (List Value)), (∀ cs ∈ L, cs.length = c) → ∀ (j : Nat) (u : Value), L.flatten[j]? = some u → ∃ i r cs, j = i * c + r ∧ r < c ∧ L[i]? = some cs ∧ cs[r]? = some u
  | [], _, j, u, h => by simp at h
  | a :: L, hL, j, u, h => by
    have ha := hL a (by simp)
    rw [List.flatten_cons] at h
    by_cases hj : j < c
    · rw [List.getElem?_append_left (by omega)] at h
      exact ⟨0, j, a, by simp, hj, rfl, h⟩
    · rw [List.getElem?_append_right (by omega), ha] at h
      obtain ⟨i, r, cs, e, hr, h1, h2⟩ := flat_at L (fun x hx => hL x (by simp [hx])) _ u h
      exact ⟨i + 1, r, cs, by rw [Nat.succ_mul]; omega, hr, by simpa using h1, h2⟩
theorem list_map {α β : Type} (f : α → β) : ∀ L : List β, (∀ b ∈ L, ∃ a, b = f a) → ∃ M : List α, L = M.map f
  | [], _ => ⟨[], rfl⟩
  | b :: L, h => by
    obtain ⟨a, rfl⟩ := h b (by simp)
    obtain ⟨M, rfl⟩ := list_map f L (fun x hx => h x (by simp [hx]))
    exact ⟨a :: M, rfl⟩

section
variable {H : Type} {enc : TypeId × Value → H} {P : Program} {w : World} {held : Bool}
/-- a slice of elements of c cells that came in, each of a form, whose own places lie below too -/
theorem slice_in2 {t e : TypeId} {c : Nat} {fuel : Nat} {vs : List Value} {x : DataW H × List MemPlace} (ht : P.underlying t = some (.slice e)) (hc : P.cellsOf e = c) (hpos : 0 < c) (Form : List Value → Prop)
    (hform : ∀ fuel cs y, DataW.trod enc P w 0 (fun _ => true) held fuel e cs = some y → (∀ z ∈ y.2, z.block < w.heap.size) → Form cs)
    (hf : DataW.trod enc P w 0 (fun _ => true) held fuel t vs = some x) (hlt : ∀ z ∈ x.2, z.block < w.heap.size) :
    ∃ A n cap, vs = [.slice A n cap] ∧ ∃ L : List (List Value), L.length = n ∧ SlR w w.heap.size c A n L.flatten ∧ (∀ cs ∈ L, Form cs ∧ cs.length = c) ∧ n ≤ cap ∧ cap ≤ maxLen := by
  rcases Go.Deep.open_slice ht hf with ⟨hcs, _⟩ | ⟨a, n, cap, m, k, D, Pl, hcs, hb, hl, hm, hmm, hx, hel⟩
  · exact ⟨none, 0, 0, hcs, [], rfl, SlR.nil _ _ _ _, by simp, Nat.le_refl _, Nat.zero_le _⟩
  · simp only [if_true] at hmm
    subst hmm
    refine ⟨some a, n, m, hcs, ?_⟩
    have hall : ∀ i, i < n → ∃ cs, (∀ j u, cs[j]? = some u → w.cell? ((a.add (i * c)).add j) = some u) ∧ cs.length = c ∧ Form cs := by
      intro i hi
      obtain ⟨cs, h1, h2⟩ := hel i (by omega)
      rw [hc] at h1
      obtain ⟨_, hlen, hcell⟩ := World.cells?_some h1
      exact ⟨cs, fun j u hu => by
        obtain ⟨hj, _⟩ := List.getElem?_eq_some_iff.1 hu
        exact (hcell j (by omega)).trans hu, hlen, hform _ _ _ h2 (fun z hz => hlt z (by
          rw [hx]
          exact List.mem_append_right _ (List.mem_flatMap.2 ⟨i, List.mem_range.2 (by omega), hz⟩)))⟩
    obtain ⟨f, hfn⟩ := Go.Deep.choose_lt (α := List Value) hall
    have hLl : ((List.range n).map f).length = n := by simp
    have hLc : ∀ cs ∈ (List.range n).map f, Form cs ∧ cs.length = c := by
      intro cs h
      obtain ⟨i, hi, rfl⟩ := List.mem_map.1 h
      obtain ⟨_, h2, h3⟩ := hfn i (List.mem_range.1 hi)
      exact ⟨h3, h2⟩
    refine ⟨(List.range n).map f, hLl, ⟨by rw [flatIn_len _ (fun cs h => (hLc cs h).2), hLl], fun hn => ⟨a, rfl, ?_, fun j u hu => ?_⟩⟩, hLc, hl, hm⟩
    · have h1 := hlt (.cell a.block a.off) (by
        rw [hx]
        refine List.mem_append_left _ ?_
        unfold MemPlace.row
        simp only [List.mem_map, List.mem_range]
        exact ⟨0, Nat.mul_pos (by omega) (by omega), by simp⟩)
      exact h1
    · obtain ⟨i, r, cs, rfl, hr, h1, h2⟩ := flat_at _ (fun cs h => (hLc cs h).2) j u hu
      simp only [List.getElem?_map, Option.map_eq_some_iff, List.getElem?_range] at h1
      obtain ⟨i', hi', rfl⟩ := h1
      obtain ⟨hi, rfl⟩ := List.getElem?_eq_some_iff.1 hi'
      simp at hi h2 ⊢
      have := (hfn i hi).1 r u h2
      rwa [add_plus] at this
end
end Go.Proofs.Ytfjilngofdahgaa
