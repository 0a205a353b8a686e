/- What is shipped, kept, looked for, agreed: plain functions, and their laws. No program here. -/
import Derived.WalkKit
namespace Go.Proofs.Ytnnnilpgnjndlaa
set_option linter.unusedVariables false

/-- how many first ones of two lists are alike -/
def cpl : List Int → List Int → Nat
  | a :: x, b :: y => if a = b then cpl x y + 1 else 0
  | _, _ => 0
theorem cpl_le_left : ∀ x y : List Int, cpl x y ≤ x.length
  | [], _ => by simp [cpl]
  | a :: x, [] => by simp [cpl]
  | a :: x, b :: y => by simp only [cpl, List.length_cons]; split <;> (have := cpl_le_left x y; omega)
theorem cpl_le_right : ∀ x y : List Int, cpl x y ≤ y.length
  | [], _ => by simp [cpl]
  | a :: x, [] => by simp [cpl]
  | a :: x, b :: y => by simp only [cpl, List.length_cons]; split <;> (have := cpl_le_right x y; omega)
theorem cpl_get : ∀ (x y : List Int) (i : Nat), i < cpl x y → x[i]? = y[i]?
  | [], _, i, h => by simp [cpl] at h
  | a :: x, [], i, h => by simp [cpl] at h
  | a :: x, b :: y, i, h => by
    simp only [cpl] at h
    split at h
    · rename_i e; subst e
      cases i with
      | zero => rfl
      | succ i => simpa using cpl_get x y i (by omega)
    · omega
theorem cpl_take : ∀ x y : List Int, x.take (cpl x y) = y.take (cpl x y)
  | [], y => by simp [cpl]
  | a :: x, [] => by simp [cpl]
  | a :: x, b :: y => by
    simp only [cpl]
    split
    · rename_i e; subst e; simp only [List.take_succ_cons]; rw [cpl_take x y]
    · simp
theorem cpl_step : ∀ (x y : List Int) (i : Nat), i ≤ cpl x y → (cpl x y = i ↔ ¬ (i < x.length ∧ i < y.length ∧ x[i]? = y[i]?))
  | [], y, i, h => by simp [cpl] at h ⊢; omega
  | a :: x, [], i, h => by simp [cpl] at h ⊢; omega
  | a :: x, b :: y, i, h => by
    by_cases e : a = b
    · subst e
      simp only [cpl, if_true] at h ⊢
      cases i with
      | zero => simp
      | succ i =>
        have := cpl_step x y i (by omega)
        simp only [List.length_cons, List.getElem?_cons_succ]
        constructor
        · intro h1 h2
          exact this.1 (by omega) ⟨by omega, by omega, h2.2.2⟩
        · intro h1
          have := this.2 (fun h2 => h1 ⟨by omega, by omega, h2.2.2⟩)
          omega
    · simp only [cpl, if_neg e] at h ⊢
      obtain rfl : i = 0 := by omega
      simp [e]
theorem cpl_self_append : ∀ (y z : List Int), cpl (y ++ z) y = y.length
  | [], z => by cases z <;> simp [cpl]
  | b :: y, z => by simp [cpl, cpl_self_append y z]

/-- how many are kept, and how many come -/
def joinP (es : List Int) (l : Nat) (ms : List Int) : Nat × Nat :=
  if cpl (es.drop l) ms < ms.length then (l + cpl (es.drop l) ms, ms.length - cpl (es.drop l) ms) else (es.length, 0)
/-- where the last one's epoch is not behind the one that is looked for -/
def backR (es : List Int) (epoch : Int) : Nat → Nat
  | 0 => 0
  | n + 1 => if es[n]?.getD 0 ≤ epoch then n + 1 else backR es epoch n
theorem backR_le (es : List Int) (epoch : Int) (n : Nat) : backR es epoch n ≤ n := by
  induction n with
  | zero => simp [backR]
  | succ n ih => simp only [backR]; split <;> omega
theorem backR_ok (es : List Int) (epoch : Int) (n : Nat) (h : 0 < backR es epoch n) : es[backR es epoch n - 1]?.getD 0 ≤ epoch := by
  induction n with
  | zero => simp [backR] at h
  | succ n ih =>
    simp only [backR] at h ⊢
    split
    · rename_i h1; simpa using h1
    · rename_i h1; rw [if_neg h1] at h; exact ih h
/-- how many of the first nodes have n entries -/
def haveN (nodes : Nat) (ms : List Int) (n : Nat) : Nat := ((ms.take nodes).filter fun m => decide ((n : Int) ≤ m)).length
/-- how many are agreed on -/
def agreedR (nodes : Nat) (es : List Int) (term : Int) (ms : List Int) : Nat → Nat
  | 0 => 0
  | n + 1 => if nodes / 2 < haveN nodes ms (n + 1) ∧ es[n]?.getD 0 = term then n + 1 else agreedR nodes es term ms n
theorem agreedR_le (nodes : Nat) (es : List Int) (term : Int) (ms : List Int) (n : Nat) : agreedR nodes es term ms n ≤ n := by
  induction n with
  | zero => simp [agreedR]
  | succ n ih => simp only [agreedR]; split <;> omega
theorem agreedR_ok (nodes : Nat) (es : List Int) (term : Int) (ms : List Int) (n : Nat) (h : 0 < agreedR nodes es term ms n) :
    nodes / 2 < haveN nodes ms (agreedR nodes es term ms n) ∧ es[agreedR nodes es term ms n - 1]?.getD 0 = term := by
  induction n with
  | zero => simp [agreedR] at h
  | succ n ih =>
    simp only [agreedR] at h ⊢
    split
    · rename_i h1; simpa using h1
    · rename_i h1; rw [if_neg h1] at h; exact ih h
theorem agreedR_mono (nodes : Nat) (es : List Int) (term : Int) (ms ms' : List Int) (hh : ∀ n, haveN nodes ms n ≤ haveN nodes ms' n) (n : Nat) : agreedR nodes es term ms n ≤ agreedR nodes es term ms' n := by
  induction n with
  | zero => simp [agreedR]
  | succ n ih =>
    simp only [agreedR]
    have := hh (n + 1)
    have h1 := agreedR_le nodes es term ms n
    have h2 := agreedR_le nodes es term ms' n
    by_cases a : nodes / 2 < haveN nodes ms (n + 1) ∧ es[n]?.getD 0 = term
    · rw [if_pos a, if_pos ⟨by omega, a.2⟩]; exact Nat.le_refl _
    · rw [if_neg a]
      split
      · omega
      · exact ih
theorem haveN_set (nodes : Nat) (ms : List Int) (k : Nat) (x y : Int) (hk : ms[k]? = some x) (hxy : x ≤ y) (n : Nat) : haveN nodes ms n ≤ haveN nodes (ms.set k y) n := by
  unfold haveN
  rw [List.take_set]
  by_cases hl : k < (ms.take nodes).length
  · have hx : (ms.take nodes)[k] = x := by
      rw [List.length_take] at hl
      rw [List.getElem_take]
      exact (List.getElem?_eq_some_iff.1 hk).2
    have e1 : ms.take nodes = (ms.take nodes).take k ++ x :: (ms.take nodes).drop (k + 1) := by
      rw [← hx, ← List.drop_eq_getElem_cons hl, List.take_append_drop]
    have e2 : (ms.take nodes).set k y = (ms.take nodes).take k ++ y :: (ms.take nodes).drop (k + 1) := List.set_eq_take_append_cons_drop.trans (if_pos hl)
    rw [e2]
    conv => lhs; rw [e1]
    rw [List.filter_append, List.filter_append, List.length_append, List.length_append, List.filter_cons, List.filter_cons]
    by_cases a : (n : Int) ≤ x
    · rw [if_pos (by simpa using a), if_pos (by simp; omega)]; exact Nat.le_refl _
    · rw [if_neg (by simpa using a)]
      split
      · rw [List.length_cons]; omega
      · exact Nat.le_refl _
  · rw [List.set_eq_of_length_le (by omega)]; exact Nat.le_refl _
end Go.Proofs.Ytnnnilpgnjndlaa
