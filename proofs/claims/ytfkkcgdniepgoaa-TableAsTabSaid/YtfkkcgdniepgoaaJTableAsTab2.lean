/- joined texts. -/
import Derived.Test.YtfkkcgdniepgoaaJTableAsTab7
import Derived.Test.YtfkkcgdniepgoaaTabBetween
/- chapter 13: the midpoints, plainly: which entries they are, and what the first of them that is not ahead of an entry says of the entry's place. -/
namespace Go.Proofs.Ytfkkcgdniepgoaa
open Go.RowKit
set_option maxHeartbeats 1000000
set_option linter.unusedVariables false

theorem midsTo_sub (l : List En) : ∀ k, (midsTo l k).Sublist (l.take k)
  | 0 => by simp [midsTo]
  | k + 1 => by
    rw [midsTo]
    have ih := midsTo_sub l k
    cases hx : l[k]? with
    | none =>
      rw [List.take_add_one, hx]
      simpa using ih
    | some x =>
      rw [List.take_add_one, hx]
      dsimp only
      refine ih.append ?_
      split
      · exact List.Sublist.refl _
      · exact List.nil_sublist _
theorem mids_sorted {l : List En} (hs : SortedE l) : SortedE (midsE l) := by
  have h := midsTo_sub l l.length
  rw [List.take_length] at h
  exact List.Pairwise.sublist h hs
theorem midsTo_get (l : List En) : ∀ k, k < l.length → (midsTo l k).length = (k + 7) / 8 ∧ ∀ j, 8 * j < k → (midsTo l k)[j]? = l[8 * j]?
  | 0, _ => ⟨rfl, fun j hj => absurd hj (Nat.not_lt_zero _)⟩
  | k + 1, hk => by
    obtain ⟨ih1, ih2⟩ := midsTo_get l k (by omega)
    have hx : l[k]? = some l[k] := List.getElem?_eq_getElem (by omega)
    rw [midsTo, hx]
    dsimp only
    by_cases h8 : k % 8 = 0
    · rw [if_pos (.inl h8)]
      refine ⟨by rw [List.length_append, ih1]; simp only [List.length_cons, List.length_nil]; omega, fun j hj => ?_⟩
      by_cases hj2 : 8 * j < k
      · rw [List.getElem?_append_left (by rw [ih1]; omega)]; exact ih2 j hj2
      · have hkj : 8 * j = k := by omega
        rw [List.getElem?_append_right (by rw [ih1]; omega), ih1, hkj, hx, show j - (k + 7) / 8 = 0 from by omega]
        rfl
    · rw [if_neg (by omega), List.append_nil]
      refine ⟨by rw [ih1]; omega, fun j hj => ih2 j (by omega)⟩
theorem mids_get {l : List En} (hl : 0 < l.length) : (midsE l).length = (l.length + 6) / 8 + 1 ∧ (∀ j, j + 1 < (midsE l).length → (midsE l)[j]? = l[8 * j]?) ∧ (midsE l)[(midsE l).length - 1]? = l[l.length - 1]? := by
  obtain ⟨h1, h2⟩ := midsTo_get l (l.length - 1) (by omega)
  have hx : l[l.length - 1]? = some l[l.length - 1] := List.getElem?_eq_getElem (by omega)
  have he : midsE l = midsTo l (l.length - 1) ++ [l[l.length - 1]] := by
    unfold midsE
    rw [show midsTo l l.length = midsTo l (l.length - 1 + 1) from by rw [Nat.sub_add_cancel hl], midsTo, hx]
    dsimp only
    rw [if_pos (.inr (by omega))]
  have hn : (midsE l).length = (l.length + 6) / 8 + 1 := by rw [he, List.length_append, h1]; simp only [List.length_cons, List.length_nil]; omega
  refine ⟨hn, fun j hj => ?_, ?_⟩
  · rw [hn] at hj
    rw [he, List.getElem?_append_left (by rw [h1]; omega)]; exact h2 j (by omega)
  · rw [hn, he, List.getElem?_append_right (by rw [h1]; omega), h1, hx, show (l.length + 6) / 8 + 1 - 1 - (l.length - 1 + 7) / 8 = 0 from by omega]
    rfl
theorem mids_length_le (l : List En) : (midsE l).length * 8 ≤ l.length + 14 := by
  by_cases h0 : l = []
  · subst h0; exact Nat.zero_le _
  have := (mids_get (List.length_pos_iff.2 h0)).1
  omega
theorem mids_bounds {l : List En} (hs : SortedE l) (e : En) :
    (rankE (midsE l) e < (midsE l).length → (rankE (midsE l) e - 1) * 8 ≤ rankE l e) ∧
    (rankE (midsE l) e + 1 < (midsE l).length → rankE l e ≤ rankE (midsE l) e * 8 ∧ rankE (midsE l) e * 8 < l.length) ∧
    (rankE (midsE l) e = (midsE l).length → rankE l e = l.length) := by
  have hmS := mids_sorted hs
  have hr := rank_le l e
  have hrm := rank_le (midsE l) e
  have hlt : ∀ {i : Nat} {x : En}, l[i]? = some x → ltE x e = decide (i < rankE l e) := rank_lt hs e
  have hltm : ∀ {i : Nat} {x : En}, (midsE l)[i]? = some x → ltE x e = decide (i < rankE (midsE l) e) := rank_lt hmS e
  by_cases h0 : l = []
  · subst h0
    refine ⟨fun h => absurd h (Nat.not_lt_zero _), fun h => absurd h (Nat.not_lt_zero _), fun _ => rfl⟩
  have hl : 0 < l.length := List.length_pos_iff.2 h0
  obtain ⟨hn, hj, hz⟩ := mids_get hl
  generalize rankE (midsE l) e = r at *
  generalize rankE l e = q at *
  refine ⟨fun h => ?_, fun h => ?_, fun h => ?_⟩
  · by_cases hr0 : r = 0
    · omega
    have hx : l[8 * (r - 1)]? = some (l[8 * (r - 1)]'(by omega)) := List.getElem?_eq_getElem _
    have h1 := hj (r - 1) (by omega)
    have h2 := hltm (h1.trans hx)
    have h3 := hlt hx
    rw [h2] at h3
    have : r - 1 < r := by omega
    simp only [this, decide_true, true_eq_decide_iff] at h3
    omega
  · have hx : l[8 * r]? = some (l[8 * r]'(by omega)) := List.getElem?_eq_getElem _
    have h1 := hj r h
    have h2 := hltm (h1.trans hx)
    have h3 := hlt hx
    rw [h2] at h3
    have : ¬ r < r := by omega
    simp only [this, decide_false, false_eq_decide_iff] at h3
    omega
  · have hx : l[l.length - 1]? = some (l[l.length - 1]'(by omega)) := List.getElem?_eq_getElem _
    have h2 := hltm (hz.trans hx)
    have h3 := hlt hx
    rw [h2] at h3
    have : (midsE l).length - 1 < r := by omega
    simp only [this, decide_true, true_eq_decide_iff] at h3
    omega
end Go.Proofs.Ytfkkcgdniepgoaa

/- chapter 13: what stands ahead of a place, at it and behind it, plainly. -/
namespace Go.Proofs.Ytfkkcgdniepgoaa
open Go.RowKit
set_option maxHeartbeats 1000000
set_option linter.unusedVariables false

/-- the place where a search begins -/
def PlaceE (l : List En) (e : En) (p : Nat) : Prop := p = rankE l e ∨ rankE l e = l.length ∧ l.length < p
theorem PlaceE.le {l : List En} {e : En} {p : Nat} (h : PlaceE l e p) : rankE l e ≤ p := by rcases h with h | ⟨h, h2⟩ <;> omega
theorem PlaceE.take {l : List En} {e : En} {p : Nat} (h : PlaceE l e p) : l.take p = l.take (rankE l e) := by
  rcases h with h | ⟨h, h2⟩
  · rw [h]
  · rw [h, List.take_length, List.take_of_length_le (Nat.le_of_lt h2)]
theorem ahead_mem {l : List En} (hs : SortedE l) {e : En} {p : Nat} (h : PlaceE l e p) {x : En} (hx : x ∈ l.take p) : ltE x e = true := by
  rw [h.take] at hx
  exact rank_pre hs e x hx
theorem at_place {l : List En} (hs : SortedE l) {e : En} {p k : Nat} (h : PlaceE l e p) (hk : p ≤ k) {x : En} (hx : l[k]? = some x) : ltE x e = false := by
  rw [rank_lt hs e hx, decide_eq_false_iff_not]
  have := h.le
  omega
theorem behind_mem {l : List En} (hs : SortedE l) {k : Nat} {x y : En} (hx : l[k]? = some x) (hy : y ∈ l.drop k) : y = x ∨ ltE x y = true := by
  obtain ⟨i, hi⟩ := List.getElem?_of_mem hy
  rw [List.getElem?_drop] at hi
  cases i with
  | zero => rw [Nat.add_zero, hx] at hi; injection hi with hi; exact .inl hi.symm
  | succ i =>
    obtain ⟨h1, h2⟩ := List.getElem?_eq_some_iff.1 hx
    obtain ⟨h3, h4⟩ := List.getElem?_eq_some_iff.1 hi
    have := List.pairwise_iff_getElem.1 hs k (k + (i + 1)) h1 h3 (by omega)
    rw [h2, h4] at this
    exact .inr this
theorem find_at {l : List En} (hs : SortedE l) (ho : ∀ x ∈ l, 0 ≤ x.2.2) (h v : Int) {p : Nat} (hp : PlaceE l (h, v, 0) p) : findE (l.take p) h v = [] := by
  unfold findE
  rw [List.map_eq_nil_iff, List.filter_eq_nil_iff]
  intro x hx hc
  have h1 := ahead_mem hs hp hx
  have h2 := ho x (List.mem_of_mem_take hx)
  unfold ltE at h1
  simp only [decide_eq_true_eq] at h1 hc
  omega
theorem find_end {l : List En} (hs : SortedE l) (h v : Int) {p k : Nat} (hp : PlaceE l (h, v, 0) p) (hk : p ≤ k) {x : En} (hx : l[k]? = some x) (hn : ¬ (x.1 = h ∧ x.2.1 = v)) : findE (l.take k) h v = findE l h v := by
  have h1 := at_place hs hp hk hx
  have h2 : (l.drop k).filter (fun e => decide (e.1 = h ∧ e.2.1 = v)) = [] := by
    rw [List.filter_eq_nil_iff]
    intro y hy hc
    have h3 := behind_mem hs hx hy
    unfold ltE at h1 h3
    simp only [decide_eq_true_eq, decide_eq_false_iff_not] at h1 h3 hc
    rcases h3 with rfl | h3
    · exact hn hc
    · omega
  conv => rhs; rw [← List.take_append_drop k l]
  unfold findE
  rw [List.filter_append]
  rw [show ((l.drop k).filter _) = [] from h2, List.append_nil]
theorem range_at {l : List En} (hs : SortedE l) (ho : ∀ x ∈ l, 0 ≤ x.2.2) (h a b : Int) {p : Nat} (hp : PlaceE l (h, a, 0) p) : rangeE (l.take p) h a b = [] := by
  unfold rangeE
  rw [List.filter_eq_nil_iff]
  intro x hx hc
  have h1 := ahead_mem hs hp hx
  have h2 := ho x (List.mem_of_mem_take hx)
  unfold ltE at h1
  simp only [decide_eq_true_eq] at h1 hc
  omega
theorem range_in {l : List En} (hs : SortedE l) (h a : Int) {p k : Nat} (hp : PlaceE l (h, a, 0) p) (hk : p ≤ k) {x : En} (hx : l[k]? = some x) (hh : x.1 = h) : a ≤ x.2.1 := by
  have h1 := at_place hs hp hk hx
  unfold ltE at h1
  simp only [decide_eq_false_iff_not] at h1
  omega
theorem range_end {l : List En} (hs : SortedE l) (h a b : Int) {p k : Nat} (hp : PlaceE l (h, a, 0) p) (hk : p ≤ k) {x : En} (hx : l[k]? = some x) (hn : ¬ (x.1 = h ∧ x.2.1 < b)) : rangeE (l.take k) h a b = rangeE l h a b := by
  have h1 := at_place hs hp hk hx
  have h2 : (l.drop k).filter (fun e => decide (e.1 = h ∧ a ≤ e.2.1 ∧ e.2.1 < b)) = [] := by
    rw [List.filter_eq_nil_iff]
    intro y hy hc
    have h3 := behind_mem hs hx hy
    unfold ltE at h1 h3
    simp only [decide_eq_true_eq, decide_eq_false_iff_not] at h1 h3 hc
    rcases h3 with rfl | h3
    · exact hn ⟨hc.1, hc.2.2⟩
    · omega
  conv => rhs; rw [← List.take_append_drop k l]
  unfold rangeE
  rw [List.filter_append]
  rw [show ((l.drop k).filter _) = [] from h2, List.append_nil]
end Go.Proofs.Ytfkkcgdniepgoaa

