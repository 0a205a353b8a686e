/- chapter 13: tables, plainly: their bytes, and what bytes say. -/
import Derived.Test.YtfjilngofdahgaaJIndexBytes1
import Derived.Test.YtfjilngofdahgaaCIndexBytesInG
import Derived.Test.YtfjilngofdahgaaCIndexBytesInEnd
import Derived.Test.YtfjilngofdahgaaCIndexBytesNum64Law
import Derived.Test.YtfjilngofdahgaaCIndexBytesCrcOne

namespace Go.Proofs.Ytfjilngofdahgaa
open Go.RowKit
set_option maxHeartbeats 1000000
set_option linter.unusedVariables false

/-- can an entry be laid? -/
def rightE (e : En) : Bool := decide ((0 ≤ e.1 ∧ 0 ≤ e.2.1 ∧ 0 ≤ e.2.2) ∧ (e.1 ≤ 1099511627776 ∧ e.2.1 ≤ 1099511627776 ∧ e.2.2 ≤ 1099511627776))
def entL (e : En) : List UInt8 := be64 e.1 ++ (be64 e.2.1 ++ be64 e.2.2)
def entsL (l : List En) : List UInt8 := (l.map entL).flatten
def tblL (l : List En) : List UInt8 := beBytes 4 l.length ++ entsL l
def magicL : List UInt8 := [80, 84, 65, 66]
instance (l : List En) : Decidable (SortedE l) := inferInstanceAs (Decidable (l.Pairwise fun a b => ltE a b = true))
/-- can a table be made of these? -/
def mayT (l : List En) : Bool := l.all rightE && decide (SortedE l)
def sealT (l : List En) : List UInt8 := sum4 (magicL ++ tblL l) ++ (magicL ++ tblL l)
def buildT (l : List En) : List UInt8 × Int := if mayT l = true then (sealT l, 0) else ([], 1)
theorem entL_length (e : En) : (entL e).length = 24 := by unfold entL; simp only [List.length_append, be64_length]
theorem entsL_length (l : List En) : (entsL l).length = 24 * l.length := by
  induction l with
  | nil => rfl
  | cons e l ih => simp only [entsL, List.map_cons, List.flatten_cons, List.length_append, entL_length, List.length_cons] at ih ⊢; omega
theorem entsL_cons (e : En) (l : List En) : entsL (e :: l) = entL e ++ entsL l := by simp [entsL]
theorem entsL_take (l : List En) (k : Nat) (e : En) (h : l[k]? = some e) : entsL (l.take (k + 1)) = entsL (l.take k) ++ entL e := by
  rw [List.take_add_one, h]
  simp [entsL]
theorem tblL_length (l : List En) : (tblL l).length = 4 + 24 * l.length := by unfold tblL; rw [List.length_append, beBytes_length, entsL_length]
theorem sealT_length (l : List En) : (sealT l).length = 12 + 24 * l.length := by
  unfold sealT
  simp only [List.length_append, sum4_length, tblL_length, magicL, List.length_cons, List.length_nil]; omega

/-- entries, what is left, the error -/
def rdEns : Nat → List UInt8 → Int → List En × List UInt8 × Int
  | 0, bs, x => ([], bs, x)
  | n + 1, bs, x =>
    if x = 0 then
      let a := inTake 8 bs 0
      let b := inTake 8 a.2.1 a.2.2
      let d := inTake 8 b.2.1 b.2.2
      ((i64L a.1, i64L b.1, i64L d.1) :: (rdEns n d.2.1 d.2.2).1, (rdEns n d.2.1 d.2.2).2)
    else ([], bs, x)
/-- what a table's bytes say behind the sum and the first word -/
def rdT (s : List UInt8) : List En × List UInt8 × Int :=
  let a := inTake 4 s 0
  rdEns (beVal a.1) a.2.1 a.2.2
def openT (b : List UInt8) : List En × Int :=
  if (openL b).2 ≠ 0 then ([], (openL b).2)
  else if (openL b).1.length < 4 then ([], 6)
  else if endL (rdT ((openL b).1.drop 4)).2.1 (rdT ((openL b).1.drop 4)).2.2 ≠ 0 ∨ (buildT (rdT ((openL b).1.drop 4)).1).2 ≠ 0 ∨ (buildT (rdT ((openL b).1.drop 4)).1).1 ≠ b then ([], 6)
  else ((rdT ((openL b).1.drop 4)).1, 0)

theorem rdEns_app : ∀ (l : List En) (b : List UInt8), l.all rightE = true → rdEns l.length (entsL l ++ b) 0 = (l, b, 0)
  | [], b, _ => rfl
  | (e0, e1, e2) :: l, b, h => by
    rw [List.all_cons, Bool.and_eq_true] at h
    obtain ⟨h1, h2⟩ := h
    unfold rightE at h1
    rw [decide_eq_true_eq] at h1
    dsimp only at h1
    rw [List.length_cons, rdEns, if_pos rfl, entsL_cons]
    unfold entL
    dsimp only
    simp only [List.append_assoc]
    rw [inTake_app _ _ 8 (be64_length _)]; dsimp only
    rw [inTake_app _ _ 8 (be64_length _)]; dsimp only
    rw [inTake_app _ _ 8 (be64_length _)]; dsimp only
    rw [rdEns_app l b h2, i64L_be64 _ (by omega), i64L_be64 _ (by omega), i64L_be64 _ (by omega)]
theorem rdT_app (l : List En) (b : List UInt8) (h : l.all rightE = true) (hl : l.length < 4294967296) : rdT (tblL l ++ b) = (l, b, 0) := by
  unfold rdT tblL
  rw [List.append_assoc, inTake_app _ _ 4 (beBytes_length _ _)]
  dsimp only
  rw [beVal_beBytes 4 _ (by omega), rdEns_app l b h]
theorem buildT_ok {l : List En} (h : (buildT l).2 = 0) : mayT l = true ∧ buildT l = (sealT l, 0) := by
  unfold buildT at h ⊢
  split at h
  · next h1 => exact ⟨h1, by rw [if_pos h1]⟩
  · cases h
theorem buildT_yes {l : List En} (h : mayT l = true) : buildT l = (sealT l, 0) := by unfold buildT; rw [if_pos h]
theorem buildT_no {l : List En} (h : mayT l = false) : buildT l = ([], 1) := by unfold buildT; rw [h]; rfl
theorem openT_build (l : List En) (h : mayT l = true) (hl : l.length < 4294967296) : openT (sealT l) = (l, 0) := by
  have hr : l.all rightE = true := by unfold mayT at h; rw [Bool.and_eq_true] at h; exact h.1
  have ho : openL (sealT l) = (magicL ++ tblL l, 0) := openL_seal _
  have hd : (magicL ++ tblL l).drop 4 = tblL l := rfl
  have hrd := rdT_app l [] hr hl
  rw [List.append_nil] at hrd
  unfold openT
  rw [ho]
  dsimp only
  rw [if_neg (by simp), if_neg (by rw [List.length_append, tblL_length]; simp [magicL]), hd, hrd]
  dsimp only
  rw [buildT_yes h, if_neg (by simp [endL])]
theorem openT_ok {b : List UInt8} (h : (openT b).2 = 0) : buildT (openT b).1 = (b, 0) := by
  unfold openT at h ⊢
  split at h
  · next h1 => exact absurd h h1
  next h1 =>
  split at h
  · cases h
  next h2 =>
  split at h
  · cases h
  next h3 =>
  rw [if_neg h1, if_neg h2, if_neg h3]
  dsimp only
  refine Prod.ext ?_ ?_
  · exact Classical.byContradiction fun hq => h3 (.inr (.inr hq))
  · exact Classical.byContradiction fun hq => h3 (.inr (.inl hq))
theorem openT_changed (l : List En) (h : mayT l = true) (p : Nat) (hp : p < (sealT l).length) (c : UInt8) (hc : c ≠ (sealT l)[p]) : openT ((sealT l).set p c) = ([], 7) := by
  have := openL_changed (magicL ++ tblL l) p hp c hc
  unfold openT
  rw [show (sealT l).set p c = (sum4 (magicL ++ tblL l) ++ (magicL ++ tblL l)).set p c from rfl, this]
  rfl
/-- entries that stand in order, one by one -/
theorem sorted_adj {l : List En} (h : ∀ i x y, l[i]? = some x → l[i + 1]? = some y → ltE x y = true) : SortedE l := by
  induction l with
  | nil => exact List.Pairwise.nil
  | cons a l ih =>
    have ih' := ih (fun i x y hx hy => h (i + 1) x y (by simpa using hx) (by simpa using hy))
    refine List.pairwise_cons.2 ⟨fun b hb => ?_, ih'⟩
    cases l with
    | nil => cases hb
    | cons d l =>
      have h0 := h 0 a d rfl rfl
      rcases List.mem_cons.1 hb with rfl | hb
      · exact h0
      · exact ltE_trans h0 ((List.pairwise_cons.1 ih').1 b hb)
theorem sorted_next {l : List En} (h : SortedE l) {i : Nat} {x y : En} (hx : l[i]? = some x) (hy : l[i + 1]? = some y) : ltE x y = true := by
  have h1 := (List.getElem?_eq_some_iff.1 hx).1
  have h2 := (List.getElem?_eq_some_iff.1 hy).1
  have := List.pairwise_iff_getElem.1 h i (i + 1) h1 h2 (by omega)
  rwa [(List.getElem?_eq_some_iff.1 hx).2, (List.getElem?_eq_some_iff.1 hy).2] at this
theorem rdEns_few : ∀ (n : Nat) (bs : List UInt8) (x : Int), 24 * (rdEns n bs x).1.length ≤ bs.length + 24
  | 0, bs, x => by simp [rdEns]
  | n + 1, bs, x => by
    rw [rdEns]
    split
    · dsimp only
      have l0 : (inTake 8 bs 0).2.2 = 0 → (inTake 8 bs 0).2.1.length + 8 = bs.length := fun h => by
        by_cases hb : 8 ≤ bs.length
        · rw [inTake_ok hb]; simp; omega
        · rw [inTake_short (by omega)] at h; cases h
      have ln : ∀ (q : List UInt8) (z : Int), (inTake 8 q z).2.2 = 0 → z = 0 ∧ (inTake 8 q z).2.1.length + 8 = q.length := fun q z h => by
        by_cases hz : z = 0
        · subst hz
          by_cases hb : 8 ≤ q.length
          · rw [inTake_ok hb]; simp; omega
          · rw [inTake_short (by omega)] at h; cases h
        · rw [inTake_err hz] at h; exact absurd h hz
      generalize inTake 8 bs 0 = a at l0 ⊢
      have l1 := ln a.2.1 a.2.2
      generalize inTake 8 a.2.1 a.2.2 = b at l1 ⊢
      have l2 := ln b.2.1 b.2.2
      generalize inTake 8 b.2.1 b.2.2 = d at l2 ⊢
      have ih := rdEns_few n d.2.1 d.2.2
      by_cases hd : d.2.2 = 0
      · obtain ⟨e1, e2⟩ := l2 hd
        obtain ⟨e3, e4⟩ := l1 e1
        have e5 := l0 e3
        simp only [List.length_cons]; omega
      · have : (rdEns n d.2.1 d.2.2).1 = [] := by
          cases n with
          | zero => rfl
          | succ n => rw [rdEns, if_neg hd]
        rw [this]; simp
    · simp
end Go.Proofs.Ytfjilngofdahgaa
