/- chapter 14: an index as bytes, plainly. No program here. -/
import Derived.Test.YtfjilngofdahgaaCIndexBytesIxCutLaw
import Derived.Test.YtfjilngofdahgaaCIndexBytesTblLaw
import Derived.Test.YtfjilngofdahgaaCIndexBytesInG

namespace Go.Proofs.Ytfjilngofdahgaa
set_option maxHeartbeats 1000000
set_option linter.unusedVariables false

/-! ### levels up to the last one that has tables -/
theorem cuts_trim (lv : List Lv) : cutsX lv = (lv.take (cutsX lv).length).map (fun l => (l.length : Int)) ∧ ∀ i l, (cutsX lv).length ≤ i → lv[i]? = some l → l = [] := by
  suffices h : ∀ k, k ≤ lv.length → cutsX (lv.take k) = (lv.take (cutsX (lv.take k)).length).map (fun l => (l.length : Int)) ∧ (cutsX (lv.take k)).length ≤ k ∧ ∀ i l, (cutsX (lv.take k)).length ≤ i → i < k → lv[i]? = some l → l = [] by
    obtain ⟨h1, h2, h3⟩ := h lv.length (Nat.le_refl _)
    rw [List.take_of_length_le (Nat.le_refl _)] at h1 h2 h3
    exact ⟨h1, fun i l hi hl => h3 i l hi (List.getElem?_eq_some_iff.1 hl).1 hl⟩
  intro k
  induction k with
  | zero => intro _; simp [cutsX]
  | succ k ih =>
    intro hk
    obtain ⟨h1, h2, h3⟩ := ih (by omega)
    have hkl : lv[k]? = some lv[k] := List.getElem?_eq_getElem (by omega)
    rw [cuts_next hkl]
    by_cases h0 : 0 < lv[k].length
    · rw [if_pos h0]
      have hl : (cutsX (lv.take k) ++ List.replicate (k - (cutsX (lv.take k)).length) 0 ++ [(lv[k].length : Int)]).length = k + 1 := by
        simp only [List.length_append, List.length_replicate, List.length_cons, List.length_nil]; omega
      rw [hl]
      refine ⟨?_, Nat.le_refl _, fun i l h4 h5 => by omega⟩
      have e1 : lv.take (k + 1) = lv.take (cutsX (lv.take k)).length ++ List.replicate (k - (cutsX (lv.take k)).length) [] ++ [lv[k]] := by
        rw [List.take_succ_eq_append_getElem (by omega)]
        congr 1
        apply List.ext_getElem?
        intro i
        by_cases hi : i < (cutsX (lv.take k)).length
        · rw [List.getElem?_append_left (by rw [List.length_take]; omega), List.getElem?_take_of_lt (by omega), List.getElem?_take_of_lt hi]
        · by_cases hik : i < k
          · rw [List.getElem?_append_right (by rw [List.length_take]; omega), List.getElem?_take_of_lt hik, List.length_take, Nat.min_eq_left (by omega), List.getElem?_replicate, if_pos (by omega)]
            have hil : lv[i]? = some lv[i] := List.getElem?_eq_getElem (by omega)
            rw [hil, h3 i _ (by omega) hik hil]
          · rw [List.getElem?_eq_none (by rw [List.length_take]; omega), List.getElem?_eq_none (by rw [List.length_append, List.length_take, List.length_replicate]; omega)]
      rw [e1, List.map_append, List.map_append, List.map_replicate, ← h1]
      rfl
    · rw [if_neg h0]
      refine ⟨h1, by omega, fun i l h4 h5 h6 => ?_⟩
      by_cases hik : i < k
      · exact h3 i l h4 hik h6
      · obtain rfl : i = k := by omega
        rw [hkl] at h6
        injection h6 with h6
        rw [← h6]
        exact List.eq_nil_of_length_eq_zero (by omega)
def trimX (lv : List Lv) : List Lv := lv.take (cutsX lv).length
theorem cuts_map (lv : List Lv) : cutsX lv = (trimX lv).map (fun l => (l.length : Int)) := (cuts_trim lv).1
theorem trim_len (lv : List Lv) : (trimX lv).length = (cutsX lv).length := by
  have := congrArg List.length (cuts_map lv)
  rw [List.length_map] at this
  exact this.symm
theorem trim_tail (lv : List Lv) : lv = trimX lv ++ List.replicate (lv.length - (cutsX lv).length) [] := by
  have h := (cuts_trim lv).2
  have hle := cuts_le lv
  have e : lv.drop (cutsX lv).length = List.replicate (lv.length - (cutsX lv).length) [] := by
    refine List.eq_replicate_iff.2 ⟨by rw [List.length_drop], fun l hl => ?_⟩
    obtain ⟨i, hi⟩ := List.getElem?_of_mem hl
    rw [List.getElem?_drop] at hi
    exact h _ l (by omega) hi
  rw [← e]
  exact (List.take_append_drop _ _).symm
theorem reps_flat (n : Nat) : (List.replicate n ([] : Lv)).flatten = [] := by
  induction n with
  | zero => rfl
  | succ n ih => rw [List.replicate_succ, List.flatten_cons, ih]; rfl
theorem trim_flat (lv : List Lv) : (trimX lv).flatten.flatten = lv.flatten.flatten := by
  conv => rhs; rw [trim_tail lv, List.flatten_append, reps_flat, List.append_nil]
theorem trim_w (lv : List Lv) : wLs (trimX lv) ≤ wLs lv := by
  have h := congrArg wLs (trim_tail lv)
  rw [wLs_append] at h
  omega

/-! ### the bytes -/
def tabL (t : Tb) : List UInt8 := textL (buildT t).1
def tabsL (l : Lv) : List UInt8 := (l.map tabL).flatten
def levL (l : Lv) : List UInt8 := beBytes 1 l.length ++ tabsL l
def levsL (lv : List Lv) : List UInt8 := (lv.map levL).flatten
def bodyX (s : Tb × List Lv) : List UInt8 := beBytes 1 (cutsX s.2).length ++ levsL (trimX s.2) ++ tabL s.1
def bigX (s : Tb × List Lv) : Bool := decide (255 < (cutsX s.2).length) || (cutsX s.2).any (fun c => decide (255 < c))
def mayX (s : Tb × List Lv) : Bool := (trimX s.2).all (fun l => l.all mayT) && mayT s.1
def saveX (s : Tb × List Lv) : List UInt8 × Int := if bigX s = true then ([], 2) else if mayX s = true then (sum4 (bodyX s) ++ bodyX s, 0) else ([], 1)
theorem build_len (t : Tb) : (buildT t).1.length ≤ 12 + 24 * t.length := by
  unfold buildT
  split
  · rw [sealT_length]; omega
  · simp
theorem tabL_len (t : Tb) : (tabL t).length ≤ 24 * (t.length + 1) := by
  have := build_len t
  unfold tabL
  rw [textL_length]
  omega
theorem tabsL_len (l : Lv) : (tabsL l).length ≤ 24 * wL l := by
  induction l with
  | nil => simp [tabsL]
  | cons t l ih =>
    have := tabL_len t
    unfold tabsL wL at *
    simp only [List.map_cons, List.flatten_cons, List.length_append, List.sum_cons]
    omega
theorem levsL_len (lv : List Lv) : (levsL lv).length ≤ 24 * wLs lv := by
  induction lv with
  | nil => simp [levsL]
  | cons l r ih =>
    have := tabsL_len l
    rw [wLs_cons]
    unfold levsL levL at *
    simp only [List.map_cons, List.flatten_cons, List.length_append, beBytes_length]
    omega
theorem bodyX_len (s : Tb × List Lv) : (bodyX s).length ≤ 24 * wX s + 25 := by
  have h1 := levsL_len (trimX s.2)
  have h2 := trim_w s.2
  have h3 := tabL_len s.1
  rw [wX_eq]
  unfold bodyX
  simp only [List.length_append, beBytes_length]
  omega
theorem tabsL_snoc {l : Lv} {j : Nat} {t : Tb} (h : l[j]? = some t) : tabsL (l.take (j + 1)) = tabsL (l.take j) ++ tabL t := by
  obtain ⟨hk, hx⟩ := List.getElem?_eq_some_iff.1 h
  unfold tabsL
  rw [List.take_succ_eq_append_getElem hk, hx]; simp
theorem levsL_snoc {lv : List Lv} {k : Nat} {l : Lv} (h : lv[k]? = some l) : levsL (lv.take (k + 1)) = levsL (lv.take k) ++ levL l := by
  obtain ⟨hk, hx⟩ := List.getElem?_eq_some_iff.1 h
  unfold levsL
  rw [List.take_succ_eq_append_getElem hk, hx]; simp

/-! ### what bytes say -/
abbrev InS := List UInt8 × Int
def rdTb (p : InS) : Option (Tb × InS) := if (openT (inText 65536 p.1 p.2).1).2 = 0 then some ((openT (inText 65536 p.1 p.2).1).1, (inText 65536 p.1 p.2).2) else none
def rdLv : Nat → InS → Option (Lv × InS)
  | 0, p => some ([], p)
  | n + 1, p => (rdTb p).bind fun a => if a.1.length = 0 then none else (rdLv n a.2).map fun b => (a.1 :: b.1, b.2)
def rdLvs : Nat → InS → Option (List Lv × InS)
  | 0, p => some ([], p)
  | n + 1, p => (rdLv (inNum 1 p.1 p.2) (inTake 1 p.1 p.2).2).bind fun a => (rdLvs n a.2).map fun b => (a.1 :: b.1, b.2)
def countX (lv : List Lv) : Nat := (lv.map fun l => (l.map List.length).sum).sum
def endX (lv : List Lv) (a : Tb × InS) : Option (Tb × List Lv) := if endL a.2.1 a.2.2 = 0 ∧ (allX (addsE [] a.1) lv).length = countX lv + a.1.length then some (addsE [] a.1, lv) else none
def readX (bs : List UInt8) : Option (Tb × List Lv) := (rdLvs (inNum 1 bs 0) (inTake 1 bs 0).2).bind fun q => (rdTb q.2).bind fun a => endX q.1 a
/-- what is read stands behind what was read -/
def ahead {α : Type} (l : List α) (o : Option (List α × InS)) : Option (List α × InS) := o.map fun b => (l ++ b.1, b.2)
theorem ahead_nil {α : Type} (o : Option (List α × InS)) : ahead [] o = o := by unfold ahead; cases o <;> simp
theorem rdLv_step {n : Nat} {p q : InS} {t : Tb} (h : rdTb p = some (t, q)) (h0 : t.length ≠ 0) (l : Lv) : ahead l (rdLv (n + 1) p) = ahead (l ++ [t]) (rdLv n q) := by
  unfold ahead
  rw [rdLv, h]
  simp only [Option.bind_some, if_neg h0, Option.map_map]
  congr 1
  funext b
  simp
theorem rdLvs_step {n : Nat} {p q : InS} {l : Lv} (h : rdLv (inNum 1 p.1 p.2) (inTake 1 p.1 p.2).2 = some (l, q)) (ls : List Lv) : ahead ls (rdLvs (n + 1) p) = ahead (ls ++ [l]) (rdLvs n q) := by
  unfold ahead
  rw [rdLvs, h]
  simp only [Option.bind_some, Option.map_map]
  congr 1
  funext b
  simp
theorem inTake_few (n : Nat) (bs : List UInt8) (x : Int) : (inTake n bs x).1.length + (inTake n bs x).2.1.length ≤ bs.length := by
  unfold inTake
  split
  · simp
  split
  · simp
  · simp only [List.length_take, List.length_drop]; omega
theorem inTake_all {n : Nat} {bs : List UInt8} {x : Int} (h : (inTake n bs x).2.2 = 0) : x = 0 ∧ (inTake n bs x).1.length = n ∧ (inTake n bs x).2.1.length + n = bs.length := by
  unfold inTake at h ⊢
  split at h
  · next h1 => exact absurd h h1
  next h1 =>
  rw [if_neg h1]
  split at h
  · cases h
  next h2 =>
  rw [if_neg h2]
  refine ⟨by simpa using h1, by simp only [List.length_take]; omega, by simp only [List.length_drop]; omega⟩
/-- a table that is read has few entries -/
theorem rdTb_few {p q : InS} {t : Tb} (h : rdTb p = some (t, q)) : mayT t = true ∧ 24 * t.length + 16 + q.1.length ≤ p.1.length := by
  unfold rdTb at h
  split at h
  · next h0 =>
    injection h with h
    injection h with h1 h2
    have hb := openT_ok h0
    rw [h1] at hb
    have hm := (buildT_ok (l := t) (by rw [hb])).1
    refine ⟨hm, ?_⟩
    rw [buildT_yes hm] at hb
    have hl := congrArg (fun x : List UInt8 × Int => x.1.length) hb
    dsimp only at hl
    rw [sealT_length] at hl
    have hq := congrArg (fun x : InS => x.1.length) h2
    (try dsimp only at hq)
    rw [← hq]
    unfold inText at hl ⊢
    split at hl
    · simp only [List.length_nil] at hl; omega
    next hn =>
    rw [if_neg hn]
    have h3 := inTake_few (inNum 4 p.1 p.2) (inTake 4 p.1 p.2).2.1 (inTake 4 p.1 p.2).2.2
    by_cases hz : (inTake 4 p.1 p.2).2.2 = 0
    · have h4 := (inTake_all hz).2.2
      omega
    · rw [inTake_err hz] at hl
      simp only [List.length_nil] at hl; omega
  · cases h

/-! ### there and back -/
theorem rdTb_tab {t : Tb} (h : mayT t = true) (hl : t.length ≤ 2000) (r : List UInt8) : rdTb (tabL t ++ r, 0) = some (t, (r, 0)) := by
  unfold rdTb tabL
  rw [buildT_yes h]
  dsimp only
  rw [inText_app _ _ 65536 (by rw [sealT_length]; omega) (by rw [sealT_length]; omega)]
  dsimp only
  rw [openT_build t h (by omega), if_pos rfl]
theorem rdLv_tabs {l : Lv} (h : ∀ t ∈ l, mayT t = true ∧ 0 < t.length ∧ t.length ≤ 2000) (r : List UInt8) : rdLv l.length (tabsL l ++ r, 0) = some (l, (r, 0)) := by
  induction l with
  | nil => rfl
  | cons t l ih =>
    obtain ⟨h1, h2, h3⟩ := h t (List.mem_cons_self ..)
    have e : tabsL (t :: l) ++ r = tabL t ++ (tabsL l ++ r) := by unfold tabsL; simp
    rw [List.length_cons, rdLv, e, rdTb_tab h1 h3]
    simp only [Option.bind_some]
    rw [if_neg (by omega), ih (fun t' ht' => h t' (List.mem_cons_of_mem _ ht'))]
    rfl
theorem inNum_byte {n : Nat} (h : n < 256) (r : List UInt8) : inNum 1 (beBytes 1 n ++ r) 0 = n ∧ (inTake 1 (beBytes 1 n ++ r) 0).2 = (r, 0) := by
  unfold inNum
  rw [inTake_app _ _ 1 (beBytes_length _ _)]
  exact ⟨beVal_beBytes 1 n (by omega), rfl⟩
theorem rdLvs_levs {lv : List Lv} (h : ∀ l ∈ lv, l.length < 256 ∧ ∀ t ∈ l, mayT t = true ∧ 0 < t.length ∧ t.length ≤ 2000) (r : List UInt8) : rdLvs lv.length (levsL lv ++ r, 0) = some (lv, (r, 0)) := by
  induction lv with
  | nil => rfl
  | cons l lv ih =>
    obtain ⟨h1, h2⟩ := h l (List.mem_cons_self ..)
    have e : levsL (l :: lv) ++ r = beBytes 1 l.length ++ (tabsL l ++ (levsL lv ++ r)) := by unfold levsL levL; simp
    obtain ⟨k1, k2⟩ := inNum_byte h1 (tabsL l ++ (levsL lv ++ r))
    rw [List.length_cons, rdLvs, e]
    dsimp only
    rw [k1, k2, rdLv_tabs h2]
    simp only [Option.bind_some]
    rw [ih (fun l' hl' => h l' (List.mem_cons_of_mem _ hl'))]
    rfl
theorem count_flat (lv : List Lv) : countX lv = lv.flatten.flatten.length := by
  unfold countX
  induction lv with
  | nil => rfl
  | cons l r ih =>
    simp only [List.map_cons, List.sum_cons, List.flatten_cons, List.flatten_append, List.length_append, ih]
    congr 1
    rw [List.length_flatten]
/-- each table has entries -/
def NeX (s : Tb × List Lv) : Prop := ∀ l ∈ s.2, ∀ t ∈ l, 0 < t.length
theorem read_parts {bs body : List UInt8} {n : Nat} {p : InS} {lv : List Lv} {mem : Tb} {A : List En} (r : List UInt8) (k1 : inNum 1 bs 0 = n) (k2 : (inTake 1 bs 0).2 = p) (h1 : rdLvs n p = some (lv, (r, 0))) (h2 : rdTb (r, 0) = some (mem, ([], 0))) (h3 : addsE [] mem = mem) (h4 : allX mem lv = A) (h5 : A.length = countX lv + mem.length) (h6 : body = bs) : readX body = some (mem, lv) := by
  subst h6 h4
  unfold readX
  rw [k1, k2, h1, Option.bind_some, h2, Option.bind_some]
  unfold endX
  rw [if_pos ⟨rfl, by rw [h3]; exact h5⟩, h3]
theorem read_body {s : Tb × List Lv} (ht : TidyX s) (hne : NeX s) (hb : bigX s = false) (hm : mayX s = true) (hw : wX s ≤ 2000) : readX (bodyX s) = some (s.1, trimX s.2) := by
  unfold bigX at hb
  rw [Bool.or_eq_false_iff, decide_eq_false_iff_not] at hb
  obtain ⟨hb1, hb2⟩ := hb
  unfold mayX at hm
  rw [Bool.and_eq_true] at hm
  obtain ⟨hm1, hm2⟩ := hm
  rw [wX_eq] at hw
  have hmem : ∀ l ∈ trimX s.2, l ∈ s.2 := fun l hl => List.mem_of_mem_take hl
  have hlv : ∀ l ∈ trimX s.2, l.length < 256 ∧ ∀ t ∈ l, mayT t = true ∧ 0 < t.length ∧ t.length ≤ 2000 := fun l hl => by
    have h1 := List.all_eq_true.1 hm1 l hl
    refine ⟨?_, fun t ht' => ⟨List.all_eq_true.1 h1 t ht', hne l (hmem l hl) t ht', ?_⟩⟩
    · have h2 := List.any_eq_false.1 hb2 (l.length : Int) (by rw [cuts_map]; exact List.mem_map.2 ⟨l, hl, rfl⟩)
      simp only [decide_eq_true_eq] at h2
      omega
    · obtain ⟨i, hi⟩ := List.getElem?_of_mem (hmem l hl)
      obtain ⟨j, hj⟩ := List.getElem?_of_mem ht'
      have h3 := level_few hi
      have h4 := table_few hj
      omega
  obtain ⟨k1, k2⟩ := inNum_byte (n := (cutsX s.2).length) (by omega) (levsL (trimX s.2) ++ tabL s.1)
  have hR := rdLvs_levs hlv (tabL s.1)
  rw [trim_len] at hR
  have h5 := rdTb_tab (t := s.1) hm2 (by omega) []
  rw [List.append_nil] at h5
  have h6 : addsE [] s.1 = s.1 := adds_self ht.srt (fun y hy => ht.ok y (List.mem_append_left _ hy))
  have h8 := (tidy_perm ht).length_eq
  rw [List.length_append] at h8
  exact read_parts _ k1 k2 hR h5 h6 (A := allX s.1 s.2) (by unfold allX; rw [trim_flat]) (by rw [h8, count_flat, trim_flat]; omega) (by unfold bodyX; rw [List.append_assoc])

/-! ### levels that are empty, behind all -/
def EqX (s s' : Tb × List Lv) : Prop := s.1 = s'.1 ∧ ∃ n, s.2 = s'.2 ++ List.replicate n []
theorem EqX.all {s s' : Tb × List Lv} (h : EqX s s') : allX s.1 s.2 = allX s'.1 s'.2 := by
  obtain ⟨h1, n, h2⟩ := h
  unfold allX
  rw [h1, h2, List.flatten_append, reps_flat, List.append_nil]
theorem EqX.cuts {s s' : Tb × List Lv} (h : EqX s s') : cutsX s.2 = cutsX s'.2 := by
  obtain ⟨h1, n, h2⟩ := h
  rw [h2]
  clear h2
  induction n with
  | zero => simp
  | succ n ih =>
    rw [List.replicate_succ', ← List.append_assoc, cuts_snoc, if_neg (by simp), ih]
theorem carry_reps (most : Int) (hm : 2 ≤ most) (n : Nat) : carryX most (List.replicate n []) none = List.replicate n [] := by
  induction n with
  | zero => rfl
  | succ n ih =>
    rw [List.replicate_succ, carryX, if_neg (by simp; omega), ih]
    rfl
theorem carry_eq (most : Int) (hm : 2 ≤ most) (n : Nat) : ∀ (lv : List Lv) (o : Option Tb), ∃ n', carryX most (lv ++ List.replicate n []) o = carryX most lv o ++ List.replicate n' []
  | [], none => ⟨n, by rw [List.nil_append, carry_reps most hm]; rfl⟩
  | [], some t => by
    cases n with
    | zero => exact ⟨0, by simp⟩
    | succ n => exact ⟨n, by
      rw [List.nil_append, List.replicate_succ]
      conv => lhs; rw [carryX, if_neg (by simp; omega), carry_reps most hm]
      rfl⟩
  | l :: r, o => by
    rw [List.cons_append, carryX, carryX]
    split
    · obtain ⟨n', h⟩ := carry_eq most hm n r (some (joinX (l ++ o.toList)))
      exact ⟨n', by rw [h]; rfl⟩
    · obtain ⟨n', h⟩ := carry_eq most hm n r none
      exact ⟨n', by rw [h]; rfl⟩
theorem EqX.flush {s s' : Tb × List Lv} (h : EqX s s') {most : Int} (hm : 2 ≤ most) : EqX (flushX most s) (flushX most s') := by
  obtain ⟨h1, n, h2⟩ := h
  unfold flushX
  rw [h1]
  by_cases h0 : s'.1.length = 0
  · rw [if_pos h0, if_pos h0]
    exact ⟨h1, n, h2⟩
  · rw [if_neg h0, if_neg h0, h2]
    refine ⟨rfl, ?_⟩
    dsimp only
    rw [put0_head, put0_head]
    cases hs : s'.2 with
    | nil =>
      cases n with
      | zero => exact ⟨0, by simp⟩
      | succ n =>
        have e : headX ([] ++ List.replicate (n + 1) []) s'.1 = headX [] s'.1 ++ List.replicate n [] := rfl
        rw [e]
        exact carry_eq most hm n _ none
    | cons l r =>
      have e : headX (l :: r ++ List.replicate n []) s'.1 = headX (l :: r) s'.1 ++ List.replicate n [] := rfl
      rw [e]
      exact carry_eq most hm n _ none
theorem EqX.has {s s' : Tb × List Lv} (h : EqX s s') (e : En) : hasX s e = hasX s' e := by unfold hasX; rw [h.all]
theorem EqX.add {s s' : Tb × List Lv} (h : EqX s s') {room most : Int} (hm : 2 ≤ most) (e : En) : EqX (addX room most s e) (addX room most s' e) ∧ cntX s e = cntX s' e := by
  have h3 := h.has e
  have hi : EqX (insE s.1 e, s.2) (insE s'.1 e, s'.2) := ⟨by rw [h.1], h.2⟩
  constructor
  · unfold addX
    rw [h3, h.1]
    rw [h.1] at hi
    split
    · exact h
    · split
      · exact hi.flush hm
      · exact hi
  · unfold cntX
    rw [h3, h.1]
theorem EqX.adds {s s' : Tb × List Lv} (h : EqX s s') {room most : Int} (hm : 2 ≤ most) (es : List En) : EqX (addsX room most s es) (addsX room most s' es) ∧ cntsX room most s es = cntsX room most s' es := by
  induction es generalizing s s' with
  | nil => exact ⟨h, rfl⟩
  | cons e es ih =>
    obtain ⟨h1, h2⟩ := h.add (room := room) hm e
    obtain ⟨h3, h4⟩ := ih h1
    exact ⟨h3, by simp only [cntsX]; rw [h2, h4]⟩
theorem trim_eq (s : Tb × List Lv) : EqX s (s.1, trimX s.2) := ⟨rfl, _, trim_tail s.2⟩

/-! ### each table has entries -/
theorem carry_ne (most : Int) (hm : 2 ≤ most) : ∀ (lv : List Lv) (o : Option Tb), (∀ l ∈ lv, ∀ t ∈ l, 0 < t.length ∧ ∀ y ∈ t, okE y = true) → (∀ t, o = some t → 0 < t.length ∧ ∀ y ∈ t, okE y = true) → ∀ l ∈ carryX most lv o, ∀ t ∈ l, 0 < t.length
  | [], none, _, _ => by simp [carryX]
  | [], some t, _, ho => by
    intro l hl t' ht'
    simp [carryX] at hl
    subst hl
    simp at ht'
    subst ht'
    exact (ho t' rfl).1
  | l :: r, o, hl, ho => by
    have hall : ∀ t ∈ l ++ o.toList, 0 < t.length ∧ ∀ y ∈ t, okE y = true := fun t ht => by
      rcases List.mem_append.1 ht with h | h
      · exact hl l (List.mem_cons_self ..) t h
      · exact ho t (by simpa using h)
    rw [carryX]
    split
    · next hf =>
      intro l' hl' t ht
      rcases List.mem_cons.1 hl' with rfl | hl'
      · cases ht
      · refine carry_ne most hm r _ (fun a ha => hl a (List.mem_cons_of_mem _ ha)) (fun t' ht' => ?_) l' hl' t ht
        injection ht' with ht'
        have hlen : 0 < (l ++ o.toList).length := by omega
        obtain ⟨t0, ht0⟩ : ∃ t0, t0 ∈ l ++ o.toList := ⟨_, List.getElem_mem hlen⟩
        obtain ⟨h1, h2⟩ := hall t0 ht0
        have hy := List.getElem_mem h1
        refine ⟨?_, fun y hy => ?_⟩
        · rw [← ht']
          exact List.length_pos_of_mem ((adds_mem [] _ _).2 (.inr ⟨h2 _ hy, List.mem_flatten.2 ⟨t0, ht0, hy⟩⟩))
        · rw [← ht'] at hy
          rcases (adds_mem [] _ _).1 hy with h | h
          · cases h
          · exact h.1
    · intro l' hl' t ht
      rcases List.mem_cons.1 hl' with rfl | hl'
      · exact (hall t ht).1
      · exact carry_ne most hm r none (fun a ha => hl a (List.mem_cons_of_mem _ ha)) (fun t' ht' => by cases ht') l' hl' t ht
theorem ne_flush {s : Tb × List Lv} (h : NeX s) (ht : TidyX s) {most : Int} (hm : 2 ≤ most) : NeX (flushX most s) := by
  unfold flushX
  split
  · exact h
  next h0 =>
  have hb : ∀ l ∈ putX s.2 0 s.1, ∀ t ∈ l, 0 < t.length ∧ ∀ y ∈ t, okE y = true := by
    have hlv : ∀ l ∈ s.2, ∀ t ∈ l, 0 < t.length ∧ ∀ y ∈ t, okE y = true := fun l hl t htl => ⟨h l hl t htl, fun y hy => ht.ok y (List.mem_append_right _ (List.mem_flatten.2 ⟨t, List.mem_flatten.2 ⟨l, hl, htl⟩, hy⟩))⟩
    have hs1 : 0 < s.1.length ∧ ∀ y ∈ s.1, okE y = true := ⟨by omega, fun y hy => ht.ok y (List.mem_append_left _ hy)⟩
    rw [put0_head]
    cases hs : s.2 with
    | nil =>
      intro l hl t htl
      simp [headX] at hl
      subst hl
      simp at htl
      subst htl
      exact hs1
    | cons a r =>
      intro l hl t htl
      unfold headX at hl
      rcases List.mem_cons.1 hl with rfl | hl
      · rcases List.mem_append.1 htl with h1 | h1
        · exact hlv a (by rw [hs]; exact List.mem_cons_self ..) t h1
        · simp at h1; subst h1; exact hs1
      · exact hlv l (by rw [hs]; exact List.mem_cons_of_mem _ hl) t htl
  exact carry_ne most hm _ none hb (fun t ht => by cases ht)
theorem ne_adds {s : Tb × List Lv} (h : NeX s) (ht : TidyX s) {room most : Int} (hm : 2 ≤ most) (es : List En) : NeX (addsX room most s es) := by
  induction es generalizing s with
  | nil => exact h
  | cons e es ih =>
    refine ih (s := addX room most s e) ?_ (tidy_add room most ht e)
    unfold addX
    split
    · exact h
    next hh =>
    split
    · exact ne_flush (s := (insE s.1 e, s.2)) h (tidy_ins ht (by simpa using hh)) hm
    · exact h
theorem ne_none : NeX ([], []) := fun l hl => by cases hl
end Go.Proofs.Ytfjilngofdahgaa
