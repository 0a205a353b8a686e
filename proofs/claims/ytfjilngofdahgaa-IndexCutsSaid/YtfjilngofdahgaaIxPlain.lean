/- chapter 14: the index, plainly: entries in memory, tables in levels. No program here. -/
import Derived.Test.YtfjilngofdahgaaTabLaw
namespace Go.Proofs.Ytfjilngofdahgaa
set_option linter.unusedVariables false

abbrev Tb := List En
abbrev Lv := List Tb
/-- all entries -/
def allX (mem : Tb) (lv : List Lv) : Tb := addsE [] (mem ++ lv.flatten.flatten)
def joinX (l : Lv) : Tb := addsE [] l.flatten
/-- a table more in a level (or in a new one behind all) -/
def putX (lv : List Lv) (k : Nat) (t : Tb) : List Lv := if k < lv.length then lv.modify k (· ++ [t]) else lv ++ [[t]]
/-- levels that are full become a table of the next one -/
def carryX (most : Int) : List Lv → Option Tb → List Lv
  | [], none => []
  | [], some t => [[t]]
  | l :: r, o => if most ≤ ((l ++ o.toList).length : Int) then [] :: carryX most r (some (joinX (l ++ o.toList))) else (l ++ o.toList) :: carryX most r none
def flushX (most : Int) (s : Tb × List Lv) : Tb × List Lv := if s.1.length = 0 then s else ([], carryX most (putX s.2 0 s.1) none)
def hasX (s : Tb × List Lv) (e : En) : Bool := decide (e.2.2 ∈ findE (allX s.1 s.2) e.1 e.2.1)
def addX (room most : Int) (s : Tb × List Lv) (e : En) : Tb × List Lv :=
  if hasX s e = true then s
  else if newE s.1 e = true ∧ room ≤ ((insE s.1 e).length : Int) then flushX most (insE s.1 e, s.2) else (insE s.1 e, s.2)
def cntX (s : Tb × List Lv) (e : En) : Nat := if hasX s e = true then 0 else if newE s.1 e = true then 1 else 0
def addsX (room most : Int) (s : Tb × List Lv) (es : List En) : Tb × List Lv := es.foldl (addX room most) s
def cntsX (room most : Int) : Tb × List Lv → List En → Nat
  | _, [] => 0
  | s, e :: es => cntX s e + cntsX room most (addX room most s e) es
/-- how much there is: entries, tables, levels -/
def wX (s : Tb × List Lv) : Nat := s.1.length + (s.2.map fun l => (l.map fun t => t.length + 1).sum + 1).sum
def wL (l : Lv) : Nat := (l.map fun t => t.length + 1).sum
def wLs (lv : List Lv) : Nat := (lv.map fun l => wL l + 1).sum
theorem wX_eq (s : Tb × List Lv) : wX s = s.1.length + wLs s.2 := rfl
theorem wL_append (a b : Lv) : wL (a ++ b) = wL a + wL b := by unfold wL; simp
theorem wLs_append (a b : List Lv) : wLs (a ++ b) = wLs a + wLs b := by unfold wLs; simp
theorem wLs_cons (l : Lv) (r : List Lv) : wLs (l :: r) = wL l + 1 + wLs r := by unfold wLs; simp
theorem flat_len (l : Lv) : l.flatten.length + l.length = wL l := by
  induction l with
  | nil => rfl
  | cons t l ih => simp only [List.flatten_cons, List.length_append, List.length_cons] at *; unfold wL at *; simp only [List.map_cons, List.sum_cons]; omega
theorem flats_len (lv : List Lv) : lv.flatten.flatten.length + lv.length ≤ wLs lv := by
  induction lv with
  | nil => simp [wLs]
  | cons l r ih =>
    have := flat_len l
    rw [wLs_cons]
    simp only [List.flatten_cons, List.flatten_append, List.length_append, List.length_cons]
    omega
theorem level_few {lv : List Lv} {k : Nat} {l : Lv} (h : lv[k]? = some l) : wL l + 1 ≤ wLs lv := by
  induction lv generalizing k with
  | nil => simp at h
  | cons a r ih =>
    rw [wLs_cons]
    cases k with
    | zero => simp at h; subst h; omega
    | succ k => have := ih (k := k) (by simpa using h); omega
theorem table_few {l : Lv} {j : Nat} {t : Tb} (h : l[j]? = some t) : t.length + 1 ≤ wL l := by
  induction l generalizing j with
  | nil => simp at h
  | cons a r ih =>
    unfold wL
    simp only [List.map_cons, List.sum_cons]
    cases j with
    | zero => simp at h; subst h; omega
    | succ j => have := ih (j := j) (by simpa using h); unfold wL at this; omega
theorem join_few (l : Lv) : (joinX l).length + l.length ≤ wL l := by
  have h1 := (adds_le [] l.flatten).2
  have h2 := flat_len l
  simp only [List.length_nil, Nat.zero_add] at h1
  unfold joinX
  omega
theorem put_w (lv : List Lv) (k : Nat) (t : Tb) : wLs (putX lv k t) ≤ wLs lv + t.length + 2 := by
  unfold putX
  split
  · next h =>
    induction lv generalizing k with
    | nil => simp at h
    | cons a r ih =>
      cases k with
      | zero => simp only [List.modify_zero_cons, wLs_cons, wL_append]; unfold wL; simp; omega
      | succ k =>
        simp only [List.modify_succ_cons, wLs_cons]
        have := ih k (by simpa using h)
        omega
  · rw [wLs_append, wLs_cons]; unfold wL wLs; simp; omega
theorem carry_w (most : Int) (hm : 2 ≤ most) (lv : List Lv) (o : Option Tb) : wLs (carryX most lv o) ≤ wLs lv + (match o with | none => 0 | some t => t.length + 2) := by
  induction lv generalizing o with
  | nil => cases o with
    | none => simp [carryX, wLs]
    | some t => unfold carryX; rw [wLs_cons]; unfold wL wLs; simp
  | cons l r ih =>
    have hw : wL (l ++ o.toList) ≤ wL l + (match o with | none => 0 | some t => t.length + 1) := by
      rw [wL_append]; cases o with
      | none => simp [wL]
      | some t => simp [wL]
    unfold carryX
    split
    · next h =>
      have h1 := ih (some (joinX (l ++ o.toList)))
      have h2 := join_few (l ++ o.toList)
      rw [wLs_cons, wLs_cons]
      have h0 : wL [] = 0 := rfl
      dsimp only at h1
      cases o <;> dsimp only at * <;> omega
    · have h1 := ih none
      rw [wLs_cons, wLs_cons]
      dsimp only at h1
      cases o <;> dsimp only at * <;> omega
theorem flush_w (most : Int) (hm : 2 ≤ most) (s : Tb × List Lv) : wX (flushX most s) ≤ wX s + 2 := by
  unfold flushX
  split
  · omega
  · rw [wX_eq, wX_eq]
    have h1 := carry_w most hm (putX s.2 0 s.1) none
    have h2 := put_w s.2 0 s.1
    dsimp only at *
    simp only [List.length_nil]
    omega
theorem add_w (room most : Int) (hm : 2 ≤ most) (s : Tb × List Lv) (e : En) : wX (addX room most s e) ≤ wX s + 3 := by
  have hi : (insE s.1 e).length ≤ s.1.length + 1 := by rw [ins_length]; split <;> omega
  unfold addX
  split
  · omega
  · split
    · have := flush_w most hm (insE s.1 e, s.2)
      rw [wX_eq] at this ⊢
      rw [wX_eq] at this ⊢
      dsimp only at *
      omega
    · rw [wX_eq, wX_eq]; dsimp only; omega
theorem adds_w (room most : Int) (hm : 2 ≤ most) (s : Tb × List Lv) (es : List En) : wX (addsX room most s es) ≤ wX s + 3 * es.length := by
  induction es generalizing s with
  | nil => simp [addsX]
  | cons e es ih =>
    have h1 := ih (addX room most s e)
    have h2 := add_w room most hm s e
    unfold addsX at *
    simp only [List.foldl_cons, List.length_cons]
    omega
theorem addsX_snoc (room most : Int) (s : Tb × List Lv) (es : List En) (e : En) : addsX room most s (es ++ [e]) = addX room most (addsX room most s es) e := by simp [addsX]
theorem cntsX_snoc (room most : Int) (s : Tb × List Lv) (es : List En) (e : En) : cntsX room most s (es ++ [e]) = cntsX room most s es + cntX (addsX room most s es) e := by
  induction es generalizing s with
  | nil => simp [cntsX, addsX]
  | cons a es ih =>
    simp only [List.cons_append, cntsX, ih]
    unfold addsX
    simp only [List.foldl_cons]
    omega
theorem cnts_le (room most : Int) (s : Tb × List Lv) (es : List En) : cntsX room most s es ≤ es.length := by
  induction es generalizing s with
  | nil => simp [cntsX]
  | cons a es ih =>
    have := ih (addX room most s a)
    have h1 : cntX s a ≤ 1 := by unfold cntX; split <;> (try split) <;> omega
    simp only [cntsX, List.length_cons]
    omega
theorem split_at {α : Type} {l : List α} {k : Nat} {x : α} (h : l[k]? = some x) : l = l.take k ++ x :: l.drop (k + 1) := by
  obtain ⟨hk, hx⟩ := List.getElem?_eq_some_iff.1 h
  rw [← hx, ← List.drop_eq_getElem_cons hk, List.take_append_drop]
theorem part_len {lv : List Lv} {k j : Nat} {l : Lv} {t : Tb} (h : lv[k]? = some l) (h2 : l[j]? = some t) :
    (lv.take k).flatten.flatten.length + (l.take j).flatten.length + t.length ≤ lv.flatten.flatten.length := by
  have e1 := congrArg (fun x : List Lv => x.flatten.flatten.length) (split_at h)
  have e2 := congrArg (fun x : Lv => x.flatten.length) (split_at h2)
  simp only [List.flatten_append, List.flatten_cons, List.length_append] at e1 e2
  omega
theorem take_next {lv : List Lv} {k : Nat} {l : Lv} (h : lv[k]? = some l) : (lv.take (k + 1)).flatten.flatten = (lv.take k).flatten.flatten ++ l.flatten := by
  obtain ⟨hk, hx⟩ := List.getElem?_eq_some_iff.1 h
  rw [List.take_succ_eq_append_getElem hk, hx]; simp
theorem take_nextL {l : Lv} {j : Nat} {t : Tb} (h : l[j]? = some t) : (l.take (j + 1)).flatten = (l.take j).flatten ++ t := by
  obtain ⟨hk, hx⟩ := List.getElem?_eq_some_iff.1 h
  rw [List.take_succ_eq_append_getElem hk, hx]; simp
theorem adds_app (l a b : List En) : addsE l (a ++ b) = addsE (addsE l a) b := by unfold addsE; rw [List.foldl_append]
/-- how many tables each level has, up to the last one that has some -/
def cutsX (lv : List Lv) : List Int := (lv.foldl (fun (p : Nat × List Int) l => (p.1 + 1, if 0 < l.length then p.2 ++ List.replicate (p.1 - p.2.length) 0 ++ [(l.length : Int)] else p.2)) (0, [])).2
theorem cuts_fst (lv : List Lv) (p : Nat × List Int) : (lv.foldl (fun (p : Nat × List Int) l => (p.1 + 1, if 0 < l.length then p.2 ++ List.replicate (p.1 - p.2.length) 0 ++ [(l.length : Int)] else p.2)) p).1 = p.1 + lv.length := by
  induction lv generalizing p with
  | nil => rfl
  | cons l r ih => rw [List.foldl_cons, ih]; simp only [List.length_cons]; omega
theorem cuts_snoc (lv : List Lv) (l : Lv) : cutsX (lv ++ [l]) = if 0 < l.length then cutsX lv ++ List.replicate (lv.length - (cutsX lv).length) 0 ++ [(l.length : Int)] else cutsX lv := by
  unfold cutsX
  rw [List.foldl_append]
  simp only [List.foldl_cons, List.foldl_nil]
  rw [cuts_fst]
  simp only [Nat.zero_add]
theorem cuts_next {lv : List Lv} {k : Nat} {l : Lv} (h : lv[k]? = some l) : cutsX (lv.take (k + 1)) = if 0 < l.length then cutsX (lv.take k) ++ List.replicate (k - (cutsX (lv.take k)).length) 0 ++ [(l.length : Int)] else cutsX (lv.take k) := by
  obtain ⟨hk, hx⟩ := List.getElem?_eq_some_iff.1 h
  rw [List.take_succ_eq_append_getElem hk, hx, cuts_snoc, List.length_take, Nat.min_eq_left (by omega)]
theorem cuts_le (lv : List Lv) : (cutsX lv).length ≤ lv.length := by
  suffices h : ∀ k, k ≤ lv.length → (cutsX (lv.take k)).length ≤ k by
    have := h lv.length (Nat.le_refl _)
    rwa [List.take_of_length_le (Nat.le_refl _)] at this
  intro k
  induction k with
  | zero => intro _; simp [cutsX]
  | succ k ih =>
    intro hk
    have h1 := ih (by omega)
    rw [cuts_next (List.getElem?_eq_getElem (by omega : k < lv.length))]
    split
    · simp only [List.length_append, List.length_replicate, List.length_cons, List.length_nil]; omega
    · omega
end Go.Proofs.Ytfjilngofdahgaa
