/- chapter 13: what stands ahead of a place, at it and behind it, plainly. -/
import Derived.Test.YtfkkcgdniepgoaaTabBetween
import Derived.Test.YtfkkcgdniepgoaaMidsLaw
namespace Go.Proofs.Ytfkkcgdniepgoaa
open Go.RowKit
set_option maxHeartbeats 1000000
set_option linter.unusedVariables false

/-- the place where a search begins -/
def PlaceE (l : List En) (e : En) (p : Nat) : Prop := p = rankE l e ∨ rankE l e = l.length ∧ l.length < p
theorem PlaceE.le {l : List En} {e : En} {p : Nat} (h : PlaceE l e p) : rankE l e ≤ p := by rcases h with h | ⟨h, h2⟩ <;> omega
theorem PlaceE.take {l : List En} {e : En} {p : Nat} (h : PlaceE l e p) : l.take p = l.take (rankE l e) := by
  rcases h with h | ⟨h, h2⟩
  · rw [h]
  · rw [h, List.take_length, List.take_of_length_le (Nat.le_of_lt h2)]
theorem ahead_mem {l : List En} (hs : SortedE l) {e : En} {p : Nat} (h : PlaceE l e p) {x : En} (hx : x ∈ l.take p) : ltE x e = true := by
  rw [h.take] at hx
  exact rank_pre hs e x hx
theorem at_place {l : List En} (hs : SortedE l) {e : En} {p k : Nat} (h : PlaceE l e p) (hk : p ≤ k) {x : En} (hx : l[k]? = some x) : ltE x e = false := by
  rw [rank_lt hs e hx, decide_eq_false_iff_not]
  have := h.le
  omega
theorem behind_mem {l : List En} (hs : SortedE l) {k : Nat} {x y : En} (hx : l[k]? = some x) (hy : y ∈ l.drop k) : y = x ∨ ltE x y = true := by
  obtain ⟨i, hi⟩ := List.getElem?_of_mem hy
  rw [List.getElem?_drop] at hi
  cases i with
  | zero => rw [Nat.add_zero, hx] at hi; injection hi with hi; exact .inl hi.symm
  | succ i =>
    obtain ⟨h1, h2⟩ := List.getElem?_eq_some_iff.1 hx
    obtain ⟨h3, h4⟩ := List.getElem?_eq_some_iff.1 hi
    have := List.pairwise_iff_getElem.1 hs k (k + (i + 1)) h1 h3 (by omega)
    rw [h2, h4] at this
    exact .inr this
theorem find_at {l : List En} (hs : SortedE l) (ho : ∀ x ∈ l, 0 ≤ x.2.2) (h v : Int) {p : Nat} (hp : PlaceE l (h, v, 0) p) : findE (l.take p) h v = [] := by
  unfold findE
  rw [List.map_eq_nil_iff, List.filter_eq_nil_iff]
  intro x hx hc
  have h1 := ahead_mem hs hp hx
  have h2 := ho x (List.mem_of_mem_take hx)
  unfold ltE at h1
  simp only [decide_eq_true_eq] at h1 hc
  omega
theorem find_end {l : List En} (hs : SortedE l) (h v : Int) {p k : Nat} (hp : PlaceE l (h, v, 0) p) (hk : p ≤ k) {x : En} (hx : l[k]? = some x) (hn : ¬ (x.1 = h ∧ x.2.1 = v)) : findE (l.take k) h v = findE l h v := by
  have h1 := at_place hs hp hk hx
  have h2 : (l.drop k).filter (fun e => decide (e.1 = h ∧ e.2.1 = v)) = [] := by
    rw [List.filter_eq_nil_iff]
    intro y hy hc
    have h3 := behind_mem hs hx hy
    unfold ltE at h1 h3
    simp only [decide_eq_true_eq, decide_eq_false_iff_not] at h1 h3 hc
    rcases h3 with rfl | h3
    · exact hn hc
    · omega
  conv => rhs; rw [← List.take_append_drop k l]
  unfold findE
  rw [List.filter_append]
  rw [show ((l.drop k).filter _) = [] from h2, List.append_nil]
theorem range_at {l : List En} (hs : SortedE l) (ho : ∀ x ∈ l, 0 ≤ x.2.2) (h a b : Int) {p : Nat} (hp : PlaceE l (h, a, 0) p) : rangeE (l.take p) h a b = [] := by
  unfold rangeE
  rw [List.filter_eq_nil_iff]
  intro x hx hc
  have h1 := ahead_mem hs hp hx
  have h2 := ho x (List.mem_of_mem_take hx)
  unfold ltE at h1
  simp only [decide_eq_true_eq] at h1 hc
  omega
theorem range_in {l : List En} (hs : SortedE l) (h a : Int) {p k : Nat} (hp : PlaceE l (h, a, 0) p) (hk : p ≤ k) {x : En} (hx : l[k]? = some x) (hh : x.1 = h) : a ≤ x.2.1 := by
  have h1 := at_place hs hp hk hx
  unfold ltE at h1
  simp only [decide_eq_false_iff_not] at h1
  omega
theorem range_end {l : List En} (hs : SortedE l) (h a b : Int) {p k : Nat} (hp : PlaceE l (h, a, 0) p) (hk : p ≤ k) {x : En} (hx : l[k]? = some x) (hn : ¬ (x.1 = h ∧ x.2.1 < b)) : rangeE (l.take k) h a b = rangeE l h a b := by
  have h1 := at_place hs hp hk hx
  have h2 : (l.drop k).filter (fun e => decide (e.1 = h ∧ a ≤ e.2.1 ∧ e.2.1 < b)) = [] := by
    rw [List.filter_eq_nil_iff]
    intro y hy hc
    have h3 := behind_mem hs hx hy
    unfold ltE at h1 h3
    simp only [decide_eq_true_eq, decide_eq_false_iff_not] at h1 h3 hc
    rcases h3 with rfl | h3
    · exact hn ⟨hc.1, hc.2.2⟩
    · omega
  conv => rhs; rw [← List.take_append_drop k l]
  unfold rangeE
  rw [List.filter_append]
  rw [show ((l.drop k).filter _) = [] from h2, List.append_nil]
end Go.Proofs.Ytfkkcgdniepgoaa
