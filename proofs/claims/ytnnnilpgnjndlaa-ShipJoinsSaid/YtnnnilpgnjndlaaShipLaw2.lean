/- What stands behind a join: plain lists. No program here. -/
import Derived.Test.YtnnnilpgnjndlaaShipLaw
namespace Go.Proofs.Ytnnnilpgnjndlaa
set_option linter.unusedVariables false

/-- how many are kept, and how many come, at whatever length -/
theorem cpl_self (x : List Int) : cpl x x = x.length := by simpa using cpl_self_append x []
theorem cpl_full (x y : List Int) (h : cpl x y = y.length) : x.take y.length = y := by
  have := cpl_take x y
  rw [h, List.take_length] at this
  exact this
/-- the list behind a join -/
def logL (es : List Int) (L : Nat) (ms : List Int) : List Int := es.take (joinP es L ms).1 ++ ms.drop (ms.length - (joinP es L ms).2)
theorem logL_eq (es : List Int) (L : Nat) (ms : List Int) (hL : L ≤ es.length) :
    logL es L ms = if cpl (es.drop L) ms < ms.length then es.take L ++ ms else es := by
  have hcr := cpl_le_right (es.drop L) ms
  unfold logL joinP
  by_cases h : cpl (es.drop L) ms < ms.length
  · simp only [if_pos h]
    rw [show ms.length - (ms.length - cpl (es.drop L) ms) = cpl (es.drop L) ms from by omega, List.take_add, cpl_take (es.drop L) ms, List.append_assoc, List.take_append_drop]
  · simp only [if_neg h]
    simp
theorem joinP_bd (es : List Int) (L : Nat) (ms : List Int) (hL : L ≤ es.length) : L ≤ (joinP es L ms).1 ∧ (joinP es L ms).1 ≤ es.length ∧ (joinP es L ms).2 ≤ ms.length := by
  have h1 := cpl_le_left (es.drop L) ms
  rw [List.length_drop] at h1
  unfold joinP
  split <;> simp <;> omega
theorem logL_tail (es : List Int) (L : Nat) (ms : List Int) (hL : L ≤ es.length) : ∃ r, (logL es L ms) = es.take L ++ (ms ++ r) := by
  have hcr := cpl_le_right (es.drop L) ms
  rw [logL_eq es L ms hL]
  by_cases h : cpl (es.drop L) ms < ms.length
  · exact ⟨[], by rw [if_pos h, List.append_nil]⟩
  · have hf := cpl_full (es.drop L) ms (by omega)
    refine ⟨(es.drop L).drop ms.length, ?_⟩
    have e2 := (List.take_append_drop ms.length (es.drop L)).symm
    rw [hf] at e2
    rw [if_neg h, ← e2, List.take_append_drop]
theorem logL_long (es : List Int) (L : Nat) (ms : List Int) (hL : L ≤ es.length) : L + ms.length ≤ (logL es L ms).length := by
  obtain ⟨r, hr⟩ := logL_tail es L ms hL
  rw [hr]; simp; omega
theorem logL_more (es : List Int) (L : Nat) (ms : List Int) (hL : L ≤ es.length) (i : Nat) (hi : i < ms.length) : (logL es L ms)[L + i]? = ms[i]? := by
  obtain ⟨r, hr⟩ := logL_tail es L ms hL
  have : (es.take L).length = L := by simp; omega
  rw [hr, List.getElem?_append_right (by omega), this, Nat.add_sub_cancel_left, List.getElem?_append_left hi]
theorem logL_head (es : List Int) (L : Nat) (ms : List Int) (hL : L ≤ es.length) (i : Nat) (hi : i < L) : (logL es L ms)[i]? = es[i]? := by
  obtain ⟨r, hr⟩ := logL_tail es L ms hL
  have : (es.take L).length = L := by simp; omega
  rw [hr, List.getElem?_append_left (by omega), List.getElem?_take, if_pos hi]
theorem logL_again (es : List Int) (L : Nat) (ms : List Int) (hL : L ≤ es.length) : joinP (logL es L ms) L ms = ((logL es L ms).length, 0) := by
  obtain ⟨r, hr⟩ := logL_tail es L ms hL
  have hd : (logL es L ms).drop L = ms ++ r := by rw [hr, List.drop_left' (by simp; omega)]
  unfold joinP
  rw [hd, cpl_self_append, if_neg (by omega)]
theorem logL_same (es : List Int) (L : Nat) (ms : List Int) (hL : L ≤ es.length) : decide (logL es L ms = es) = decide ((joinP es L ms).2 = 0) := by
  have hcr := cpl_le_right (es.drop L) ms
  rw [decide_eq_decide, logL_eq es L ms hL]
  unfold joinP
  by_cases h : cpl (es.drop L) ms < ms.length
  · rw [if_pos h, if_pos h]
    constructor
    · intro e
      have : es.drop L = ms := by rw [← e, List.drop_left' (by simp; omega)]
      rw [this, cpl_self] at h
      omega
    · intro e; simp at e; omega
  · rw [if_neg h, if_neg h]; simp
end Go.Proofs.Ytnnnilpgnjndlaa
