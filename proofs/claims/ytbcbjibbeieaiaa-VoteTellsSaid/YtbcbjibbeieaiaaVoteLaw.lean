/- Ballots, askers, majorities, ballots as bytes: plain functions, and their laws. No program here. -/
import Derived.Test.YtbcbjibbeieaiaaNum64
import Derived.Test.YtbcbjibbeieaiaaFrameLaw
import Derived.Test.YtbcbjibbeieaiaaInEnd
namespace Go.Proofs.Ytbcbjibbeieaiaa
set_option linter.unusedVariables false

/-- is a log as new as another one? -/
def newerB (ea la eb lb : Int) : Bool := decide (eb < ea ∨ ea = eb ∧ lb ≤ la)
/-- a term is seen -/
def seeL (b : Int × Int) (term : Int) : Int × Int := if b.1 < term then (term, -1) else b
/-- a vote is asked for -/
def askL (b : Int × Int) (term who ea la eb lb : Int) : (Int × Int) × Bool :=
  if term ≠ (seeL b term).1 ∨ ((seeL b term).2 ≠ -1 ∧ (seeL b term).2 ≠ who) ∨ newerB ea la eb lb = false then (seeL b term, false) else (((seeL b term).1, who), true)
/-- one stands -/
def standL (b : Int × Int) (who : Int) : Int × Int :=
  if b.1 = 2147483647 then b else if b.1 = 9223372036854775807 then (b.1, who) else (b.1 + 1, who)

/-! ### majorities -/
def addD (acc : List Int) (x : Int) : List Int := if acc.contains x then acc else acc ++ [x]
/-- the different ones of a list that are no less than nought and less than n -/
def inR (n : Int) (zs : List Int) : List Int := zs.filter fun z => decide (0 ≤ z ∧ z < n)
def diffs (zs : List Int) : List Int := zs.foldl addD []
def majB (n : Int) (zs : List Int) : Bool := decide (1 ≤ n ∧ n / 2 < ((diffs (inR n zs)).length : Int))

theorem diffs_snoc (zs : List Int) (x : Int) : diffs (zs ++ [x]) = addD (diffs zs) x := by simp [diffs]
theorem addD_mem (acc : List Int) (x y : Int) : y ∈ addD acc x ↔ y ∈ acc ∨ y = x := by
  unfold addD
  split
  · rename_i h
    have h' : x ∈ acc := by simpa using h
    constructor
    · exact .inl
    · rintro (h2 | rfl)
      · exact h2
      · exact h'
  · simp
theorem addD_nodup (acc : List Int) (x : Int) (h : acc.Nodup) : (addD acc x).Nodup := by
  unfold addD
  split
  · exact h
  · rename_i hn
    have hn' : x ∉ acc := by simpa using hn
    rw [List.nodup_append]
    exact ⟨h, by simp, fun a ha b hb => by simp at hb; subst hb; exact fun e => hn' (e ▸ ha)⟩
theorem foldl_addD_mem (zs acc : List Int) (y : Int) : y ∈ zs.foldl addD acc ↔ y ∈ acc ∨ y ∈ zs := by
  induction zs generalizing acc with
  | nil => simp
  | cons z zs ih => rw [List.foldl_cons, ih, addD_mem]; simp [or_assoc]
theorem foldl_addD_nodup (zs acc : List Int) (h : acc.Nodup) : (zs.foldl addD acc).Nodup := by
  induction zs generalizing acc with
  | nil => exact h
  | cons z zs ih => exact ih _ (addD_nodup _ _ h)
theorem diffs_mem (zs : List Int) (y : Int) : y ∈ diffs zs ↔ y ∈ zs := by unfold diffs; rw [foldl_addD_mem]; simp
theorem diffs_nodup (zs : List Int) : (diffs zs).Nodup := foldl_addD_nodup _ _ List.nodup_nil
theorem inR_mem (n : Int) (zs : List Int) (y : Int) : y ∈ inR n zs ↔ y ∈ zs ∧ 0 ≤ y ∧ y < n := by unfold inR; rw [List.mem_filter]; simp
theorem nodup_range (n : Nat) : ∀ l : List Int, l.Nodup → (∀ x ∈ l, 0 ≤ x ∧ x < (n : Int)) → l.length ≤ n := by
  induction n with
  | zero =>
    intro l _ h
    cases l with
    | nil => simp
    | cons a l => have := h a (by simp); omega
  | succ n ih =>
    intro l hd h
    have h1 := ih (l.erase (n : Int)) (hd.erase _) (fun x hx => by
      obtain ⟨hne, hm⟩ := (hd.mem_erase_iff).1 hx
      have := h x hm
      omega)
    rw [List.length_erase] at h1
    split at h1 <;> omega
/-- two majorities have one in common -/
theorem maj_common (n : Int) (a b : List Int) (ha : majB n a = true) (hb : majB n b = true) : ∃ x, x ∈ a ∧ x ∈ b ∧ 0 ≤ x ∧ x < n := by
  unfold majB at ha hb
  rw [decide_eq_true_iff] at ha hb
  apply Classical.byContradiction
  intro hno
  have hdis : ∀ x ∈ diffs (inR n a), ∀ y ∈ diffs (inR n b), x ≠ y := by
    intro x hx y hy e
    subst e
    rw [diffs_mem, inR_mem] at hx hy
    exact hno ⟨x, hx.1, hy.1, hx.2⟩
  have hnd : (diffs (inR n a) ++ diffs (inR n b)).Nodup := by
    rw [List.nodup_append]
    exact ⟨diffs_nodup _, diffs_nodup _, hdis⟩
  have := nodup_range n.toNat _ hnd (fun x hx => by
    rcases List.mem_append.1 hx with h | h <;> (rw [diffs_mem, inR_mem] at h; omega))
  rw [List.length_append] at this
  omega

/-! ### ballots as bytes -/
def rightV (b : Int × Int) : Bool := decide (0 ≤ b.1 ∧ b.1 ≤ 2147483647 ∧ -1 ≤ b.2 ∧ b.2 < 7)
/-- a ballot's body -/
def ballotL (b : Int × Int) : List UInt8 := be64 b.1 ++ be64 b.2
theorem ballotL_length (b : Int × Int) : (ballotL b).length = 16 := by unfold ballotL; rw [List.length_append, be64_length, be64_length]
/-- a ballot laid, or why not -/
def putV (b : Int × Int) : List UInt8 × Int := if rightV b = true then (frameL (ballotL b), 0) else ([], 1)
/-- the ballot of a body, and whether it is one -/
def oneL (body : List UInt8) : (Int × Int) × Bool :=
  ((i64L (inTake 8 body 0).1, i64L (inTake 8 (inTake 8 body 0).2.1 (inTake 8 body 0).2.2).1),
    decide (body.length = 16) && rightV (i64L (inTake 8 body 0).1, i64L (inTake 8 (inTake 8 body 0).2.1 (inTake 8 body 0).2.2).1))
theorem ballot_in64 {b : Int × Int} (h : rightV b = true) : (-9223372036854775808 ≤ b.1 ∧ b.1 ≤ 9223372036854775807) ∧ (-9223372036854775808 ≤ b.2 ∧ b.2 ≤ 9223372036854775807) := by
  unfold rightV at h
  rw [decide_eq_true_iff] at h
  omega
theorem oneL_ballot {b : Int × Int} (h : rightV b = true) : oneL (ballotL b) = (b, true) := by
  have hl := ballotL_length b
  have h1 : inTake 8 (ballotL b) 0 = (be64 b.1, be64 b.2, 0) := by
    rw [inTake_ok (by omega)]
    unfold ballotL
    rw [List.take_left' (be64_length _), List.drop_left' (be64_length _)]
  have h2 : inTake 8 (be64 b.2) 0 = (be64 b.2, [], 0) := by
    rw [inTake_ok (by rw [be64_length]; omega), List.take_of_length_le (by rw [be64_length]; omega), List.drop_of_length_le (by rw [be64_length]; omega)]
  obtain ⟨i1, i2⟩ := ballot_in64 h
  unfold oneL
  rw [h1]
  simp only []
  rw [h2, i64L_be64 _ i1, i64L_be64 _ i2, hl]
  show ((b.1, b.2), decide (16 = 16) && rightV (b.1, b.2)) = (b, true)
  rw [show (b.1, b.2) = b from rfl, h]
  rfl
theorem oneEnd (l : List UInt8) : (endL (inTake 8 (inTake 8 l 0).2.1 (inTake 8 l 0).2.2).2.1 (inTake 8 (inTake 8 l 0).2.1 (inTake 8 l 0).2.2).2.2 == 0) = decide (l.length = 16) := by
  by_cases h8 : l.length < 8
  · rw [inTake_short h8]
    simp only []
    rw [inTake_err (by decide)]
    simp only [endL]
    rw [decide_eq_false (by omega), if_neg (by rintro ⟨h, _⟩; cases h)]
    rfl
  · rw [inTake_ok (by omega)]
    simp only []
    by_cases h16 : l.length < 16
    · rw [inTake_short (by rw [List.length_drop]; omega)]
      simp only [endL]
      rw [decide_eq_false (by omega), if_neg (by rintro ⟨h, _⟩; cases h)]
      rfl
    · rw [inTake_ok (by rw [List.length_drop]; omega)]
      simp only [endL, List.length_drop]
      by_cases e : l.length = 16
      · rw [decide_eq_true e, if_neg (by rintro ⟨_, h⟩; omega)]; rfl
      · rw [decide_eq_false e, if_pos ⟨trivial, by omega⟩]; rfl
/-- what is read of bodies: the last ballot ahead of the first body that is none, and how many bytes -/
def readV : List (List UInt8) → (Int × Int) → Nat → (Int × Int) × Nat
  | [], out, n => (out, n)
  | b :: l, out, n => if (oneL b).2 = true then readV l (oneL b).1 (n + b.length + 12) else (out, n)
theorem readV_ballots (l : List (Int × Int)) (h : ∀ b ∈ l, rightV b = true) (out : Int × Int) (n : Nat) :
    readV (l.map ballotL) out n = (l.getLast?.getD out, n + 28 * l.length) := by
  induction l generalizing out n with
  | nil => simp [readV]
  | cons b l ih =>
    rw [List.map_cons, readV, oneL_ballot (h b (by simp)), if_pos rfl, ih (fun x hx => h x (by simp [hx])), ballotL_length]
    congr 1
    · cases l with
      | nil => rfl
      | cons c l => simp [List.getLast?_cons]
    · rw [List.length_cons]; omega
/-- what is read of bytes -/
def readBytes (b : List UInt8) : (Int × Int) × Nat := readV (framesL b).1 (0, -1) 0
theorem layAll_ballots (l : List (Int × Int)) : (layAll (l.map ballotL)).length = 28 * l.length := by
  induction l with
  | nil => rfl
  | cons b l ih => rw [List.map_cons, layAll_cons, List.length_append, frameL_length, ih, ballotL_length, List.length_cons]; omega
/-- of ballots one behind the other, cut wherever: those that are whole -/
theorem readBytes_kept (l : List (Int × Int)) (h : ∀ b ∈ l, rightV b = true) (k m : Nat) (hm : m ≤ l.length) (h1 : 28 * m ≤ k) (h2 : m < l.length → k < 28 * (m + 1)) (hk : k ≤ 28 * l.length) :
    readBytes ((layAll (l.map ballotL)).take k) = ((l.take m).getLast?.getD (0, -1), 28 * m) := by
  have he : ∀ j, j ≤ l.length → endsL (l.map ballotL) j = 28 * j := by
    intro j hj
    unfold endsL
    rw [← List.map_take, layAll_ballots, List.length_take, Nat.min_eq_left hj]
  have hf := framesL_kept (l.map ballotL) k m (fun b hb => by
    obtain ⟨x, _, rfl⟩ := List.mem_map.1 hb
    rw [ballotL_length]; omega) (by rw [List.length_map]; exact hm) (by rw [he m hm]; exact h1)
    (fun hlt => by rw [List.length_map] at hlt; rw [he (m + 1) (by omega)]; exact h2 hlt) (by rw [layAll_ballots]; exact hk)
  unfold readBytes
  rw [hf]
  simp only []
  rw [← List.map_take, readV_ballots _ (fun b hb => h b (List.mem_of_mem_take hb)), List.length_take, Nat.min_eq_left hm]
  simp
theorem readBytes_all (l : List (Int × Int)) (h : ∀ b ∈ l, rightV b = true) : readBytes (layAll (l.map ballotL)) = (l.getLast?.getD (0, -1), 28 * l.length) := by
  have := readBytes_kept l h (28 * l.length) l.length (Nat.le_refl _) (Nat.le_refl _) (by omega) (Nat.le_refl _)
  rwa [List.take_of_length_le (by rw [layAll_ballots]; omega), List.take_of_length_le (Nat.le_refl _)] at this

theorem allL_sum : ∀ k b, (allL k b).2 = ((allL k b).1.map fun x => x.length + 12).sum ∧ (allL k b).2 ≤ b.length
  | 0, b => by simp [allL]
  | k + 1, b => by
    simp only [allL]
    split
    · rename_i h
      have ho := first_ok (b := b) (x := (firstL b).1) (m := (firstL b).2.1) (by rw [← h])
      have ih := allL_sum k (b.drop (firstL b).2.1)
      rw [List.length_drop] at ih
      simp only [List.map_cons, List.sum_cons]
      omega
    · simp
theorem frames_sum (b : List UInt8) : ((framesL b).1.map fun x => x.length + 12).sum ≤ b.length := by
  have h := allL_sum (b.length + 1) b
  unfold framesL
  omega
/-- how many bytes the first frames have -/
def sumTo (F : List (List UInt8)) (k : Nat) : Nat := ((F.take k).map fun x => x.length + 12).sum
theorem sumTo_succ (F : List (List UInt8)) (k : Nat) (x : List UInt8) (h : F[k]? = some x) : sumTo F (k + 1) = sumTo F k + (x.length + 12) := by
  unfold sumTo
  rw [List.take_add_one, h, List.map_append, List.sum_append]; simp
theorem sumTo_le (F : List (List UInt8)) (k : Nat) : sumTo F k ≤ (F.map fun x => x.length + 12).sum := by
  unfold sumTo
  conv => rhs; rw [← List.take_append_drop k F, List.map_append, List.sum_append]
  omega
theorem readV_step (F : List (List UInt8)) (k : Nat) (x : List UInt8) (h : F[k]? = some x) (out : Int × Int) (n : Nat) :
    readV (F.drop k) out n = if (oneL x).2 = true then readV (F.drop (k + 1)) (oneL x).1 (n + x.length + 12) else (out, n) := by
  obtain ⟨hk, rfl⟩ := List.getElem?_eq_some_iff.1 h
  rw [List.drop_eq_getElem_cons hk, readV]
theorem readBytes_one (b : Int × Int) (h : rightV b = true) (more : List UInt8) (hm : (firstL more).2.2 ≠ 0) : readBytes (frameL (ballotL b) ++ more) = (b, 28) := by
  have hf := framesL_join [ballotL b] more (by intro x hx; simp at hx; subst hx; rw [ballotL_length]; omega)
  rw [show layAll [ballotL b] = frameL (ballotL b) from by simp [layAll], framesL_stop more hm] at hf
  unfold readBytes
  rw [hf]
  simp only [List.append_nil, readV]
  rw [oneL_ballot h, if_pos rfl, ballotL_length]

/-! ### whatever is asked -/
/-- each that was granted is of a term that is over, or the one that has it -/
def Granted (b : Int × Int) (l : List (Int × Int)) : Prop := ∀ g ∈ l, 0 ≤ g.2 ∧ g.1 ≤ b.1 ∧ (g.1 = b.1 → g.2 = b.2)
theorem granted_see {b : Int × Int} {l : List (Int × Int)} (h : Granted b l) (t : Int) : Granted (seeL b t) l := by
  intro g hg
  obtain ⟨h1, h2, h3⟩ := h g hg
  unfold seeL
  split
  · exact ⟨h1, by simp only []; omega, fun e => by simp only [] at e; omega⟩
  · exact ⟨h1, h2, h3⟩
theorem see_le (b : Int × Int) (t : Int) : b.1 ≤ (seeL b t).1 := by
  unfold seeL
  split
  · exact Int.le_of_lt ‹_›
  · exact Int.le_refl _
theorem granted_ask {b : Int × Int} {l : List (Int × Int)} (h : Granted b l) (t who ea la eb lb : Int) (hw : 0 ≤ who) : Granted (askL b t who ea la eb lb).1 l := by
  have hs := granted_see h t
  unfold askL
  split
  · exact hs
  · rename_i hn
    intro g hg
    obtain ⟨h1, h2, h3⟩ := hs g hg
    refine ⟨h1, h2, fun e => ?_⟩
    have := h3 e
    simp only []
    omega
theorem ask_le (b : Int × Int) (t who ea la eb lb : Int) : b.1 ≤ (askL b t who ea la eb lb).1.1 := by
  have := see_le b t
  unfold askL
  split <;> exact this
theorem granted_new {b : Int × Int} {l : List (Int × Int)} (h : Granted b l) (hb : 0 ≤ b.2) : Granted b (l ++ [b]) := by
  intro g hg
  rcases List.mem_append.1 hg with h1 | h1
  · exact h g h1
  · simp at h1; subst h1; exact ⟨hb, Int.le_refl _, fun _ => rfl⟩
theorem ask_for (b : Int × Int) (t who ea la eb lb : Int) (h : (askL b t who ea la eb lb).2 = true) : (askL b t who ea la eb lb).1.2 = who := by
  unfold askL at h ⊢
  split at h
  · cases h
  · rename_i hn; rw [if_neg hn]
theorem granted_stand {b : Int × Int} {l : List (Int × Int)} (h : Granted b l) (who : Int) (hb : b.1 < 2147483647) : Granted (standL b who) l := by
  intro g hg
  obtain ⟨h1, h2, h3⟩ := h g hg
  unfold standL
  rw [if_neg (by omega), if_neg (by omega)]
  exact ⟨h1, by simp only []; omega, fun e => by simp only [] at e; omega⟩
end Go.Proofs.Ytbcbjibbeieaiaa
