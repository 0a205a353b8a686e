/- chapter 13: the midpoints of the entries that TableMids lays, plainly. -/
import Derived.Test.YtfkkcgdniepgoaaTblFindLaw
namespace Go.Proofs.Ytfkkcgdniepgoaa
open Go.RowKit
set_option maxHeartbeats 1000000
set_option linter.unusedVariables false

def midL (k : Nat) : List En := (List.range k).map fun (i : Nat) => ((((i / 7 : Nat) : Int), ((i % 7 : Nat) : Int), ((3 * i : Nat) : Int)) : En)
theorem midL_len (k : Nat) : (midL k).length = k := by simp [midL]
theorem midL_succ (k : Nat) : midL (k + 1) = midL k ++ [(((k / 7 : Nat) : Int), ((k % 7 : Nat) : Int), ((3 * k : Nat) : Int))] := by simp [midL, List.range_succ]
theorem midL_get {k i : Nat} (h : i < k) : (midL k)[i]? = some (((i / 7 : Nat) : Int), ((i % 7 : Nat) : Int), ((3 * i : Nat) : Int)) := by
  unfold midL
  rw [List.getElem?_map, List.getElem?_range h]
  rfl
theorem midL_sorted (k : Nat) : SortedE (midL k) := by
  refine sorted_adj (fun i x y hx hy => ?_)
  have hi := (List.getElem?_eq_some_iff.1 hx).1
  have hj := (List.getElem?_eq_some_iff.1 hy).1
  rw [midL_len] at hi hj
  rw [midL_get hi] at hx
  rw [midL_get hj] at hy
  injection hx with hx
  injection hy with hy
  subst hx hy
  unfold ltE
  rw [decide_eq_true_iff]
  dsimp only
  omega
theorem midL_may {k : Nat} (hk : k ≤ 100) : mayT (midL k) = true := by
  unfold mayT
  rw [Bool.and_eq_true]
  refine ⟨List.all_eq_true.2 (fun x hx => ?_), decide_eq_true (midL_sorted k)⟩
  obtain ⟨i, hi⟩ := List.getElem?_of_mem hx
  have h1 := (List.getElem?_eq_some_iff.1 hi).1
  rw [midL_len] at h1
  rw [midL_get h1] at hi
  injection hi with hi
  subst hi
  unfold rightE
  rw [decide_eq_true_iff]
  dsimp only
  omega
theorem midL_pos (k : Nat) : ∀ x ∈ midL k, 0 ≤ x.2.2 := fun x hx => by
  obtain ⟨i, hi⟩ := List.getElem?_of_mem hx
  have h1 := (List.getElem?_eq_some_iff.1 hi).1
  rw [midL_len] at h1
  rw [midL_get h1] at hi
  injection hi with hi
  subst hi
  dsimp only
  omega
theorem midL_mid {n : Nat} (h : 1 ≤ n) : (midsE (midL n)).length = (n + 6) / 8 + 1 ∧ (∀ j, j + 1 < (midsE (midL n)).length → (midsE (midL n))[j]? = (midL n)[8 * j]?) ∧ (midsE (midL n))[(midsE (midL n)).length - 1]? = (midL n)[n - 1]? := by
  have := mids_get (l := midL n) (by rw [midL_len]; omega)
  rwa [midL_len] at this
theorem midL_at {n i : Nat} (h : 1 ≤ n) (hi : i < (midsE (midL n)).length) : ∃ q : Nat, q < n ∧ (midsE (midL n))[i]? = some (((q / 7 : Nat) : Int), ((q % 7 : Nat) : Int), ((3 * q : Nat) : Int)) ∧ (i + 1 < (midsE (midL n)).length → q = 8 * i) ∧ (i + 1 = (midsE (midL n)).length → q = n - 1) := by
  obtain ⟨h1, h2, h3⟩ := midL_mid h
  by_cases hj : i + 1 < (midsE (midL n)).length
  · refine ⟨8 * i, by omega, ?_, fun _ => rfl, fun hc => by omega⟩
    rw [h2 i hj]
    exact midL_get (by omega)
  · refine ⟨n - 1, by omega, ?_, fun hc => absurd hc hj, fun _ => rfl⟩
    rw [show i = (midsE (midL n)).length - 1 from by omega, h3]
    exact midL_get (by omega)
theorem midL_step {n i : Nat} (h : 1 ≤ n) (h1 : 1 ≤ i) (h2 : i < (midsE (midL n)).length) : ∃ x y, (midsE (midL n))[i - 1]? = some x ∧ (midsE (midL n))[i]? = some y ∧ ltE x y = true ∧ ∃ a b t : Nat, x.2.2 = (a : Int) ∧ y.2.2 = (b : Int) ∧ b = a + 3 * t ∧ t ≤ 8 ∧ b ≤ 3 * n := by
  have hn := (midL_mid h).1
  obtain ⟨q, hq, hx, hx1, _⟩ := midL_at h (i := i - 1) (by omega)
  obtain ⟨r, hr, hy, hy1, hy2⟩ := midL_at h h2
  have hq8 := hx1 (by omega)
  have hqr : q < r ∧ r ≤ q + 8 := by
    by_cases hj : i + 1 < (midsE (midL n)).length
    · have := hy1 hj; omega
    · have := hy2 (by omega); omega
  refine ⟨_, _, hx, hy, ?_, 3 * q, 3 * r, r - q, rfl, rfl, by omega, by omega, by omega⟩
  unfold ltE
  rw [decide_eq_true_iff]
  dsimp only
  omega
theorem midL_ends {n : Nat} (h : 1 ≤ n) : (midsE (midL n))[0]? = (midL n)[0]? ∧ (midsE (midL n))[(midsE (midL n)).length - 1]? = (midL n)[n - 1]? := by
  refine ⟨?_, (midL_mid h).2.2⟩
  have hn := (midL_mid h).1
  obtain ⟨q, hq, hx, hx1, hx2⟩ := midL_at h (i := 0) (by omega)
  have hq0 : q = 0 := by
    by_cases hj : 0 + 1 < (midsE (midL n)).length
    · have := hx1 hj; omega
    · have := hx2 (by omega); omega
  subst hq0
  rw [hx]
  exact (midL_get (by omega)).symm
end Go.Proofs.Ytfkkcgdniepgoaa
