/- chapter 20's messages: plain laws. -/
import Derived.Test.YtadhboioaacaeaaGreatCWireTellsInG

namespace Go.Proofs.YtadhboioaacaeaaGreat
open Go.RowKit
set_option maxHeartbeats 1000000
set_option linter.unusedVariables false

structure WMsg where
  k : Int
  t : Int
  l : Int
  e : Int
  c : Int
  ok : Bool
  es : List ByteArray
def WMsg.none : WMsg := ⟨0, 0, 0, 0, 0, false, []⟩
def smallP (v : Int) : Prop := 0 ≤ v ∧ v ≤ 2147483647
instance (v : Int) : Decidable (smallP v) := inferInstanceAs (Decidable (_ ∧ _))
/-- may it be laid? -/
def WMsg.right (m : WMsg) : Prop := (smallP m.t ∧ smallP m.l ∧ smallP m.e ∧ smallP m.c) ∧ (∀ s ∈ m.es, s.size ≤ 4000) ∧ (1 ≤ m.k ∧ m.k ≤ 4) ∧ m.es.length ≤ 4
instance (m : WMsg) : Decidable m.right := inferInstanceAs (Decidable (_ ∧ _ ∧ _ ∧ _))
def okN (b : Bool) : Nat := if b then 1 else 0
def headL (m : WMsg) : List UInt8 := beBytes 1 m.k.toNat ++ beBytes 4 m.t.toNat ++ beBytes 4 m.l.toNat ++ beBytes 4 m.e.toNat ++ beBytes 4 m.c.toNat ++ beBytes 1 (okN m.ok) ++ beBytes 1 m.es.length
def textsL (es : List ByteArray) : List UInt8 := (es.map fun s => textL s.data.toList).flatten
def msgL (m : WMsg) : List UInt8 := headL m ++ textsL m.es
def putW (m : WMsg) : List UInt8 × Int := if m.right then (sum4 (msgL m) ++ msgL m, 0) else ([], 1)
theorem headL_length (m : WMsg) : (headL m).length = 19 := by unfold headL; simp only [List.length_append, beBytes_length]
theorem textsL_snoc (es : List ByteArray) (s : ByteArray) : textsL (es ++ [s]) = textsL es ++ textL s.data.toList := by simp [textsL]
theorem textsL_cons (es : List ByteArray) (s : ByteArray) : textsL (s :: es) = textL s.data.toList ++ textsL es := by simp [textsL]
theorem textsL_take (es : List ByteArray) (k : Nat) (s : ByteArray) (h : es[k]? = some s) : textsL (es.take (k + 1)) = textsL (es.take k) ++ textL s.data.toList := by
  have hk := (List.getElem?_eq_some_iff.mp h).1
  rw [show es.take (k + 1) = es.take k ++ [s] from by rw [List.take_succ_eq_append_getElem hk]; congr 2; exact (List.getElem?_eq_some_iff.mp h).2, textsL_snoc]
theorem textsL_few (es : List ByteArray) (h : ∀ s ∈ es, s.size ≤ 4000) : (textsL es).length ≤ 4004 * es.length := by
  induction es with
  | nil => simp [textsL]
  | cons s es ih =>
    rw [textsL_cons, List.length_append, textL_length, ← size_list]
    have h1 := h s (by simp)
    have h2 := ih (fun x hx => h x (by simp [hx]))
    simp only [List.length_cons]
    omega

/-- so many texts, read -/
def rdTexts : Nat → List UInt8 → Int → List ByteArray × List UInt8 × Int
  | 0, bs, x => ([], bs, x)
  | n + 1, bs, x => if x = 0 then ((⟨(inText 4000 bs 0).1.toArray⟩ : ByteArray) :: (rdTexts n (inText 4000 bs 0).2.1 (inText 4000 bs 0).2.2).1, (rdTexts n (inText 4000 bs 0).2.1 (inText 4000 bs 0).2.2).2) else ([], bs, x)
theorem rdTexts_step (n : Nat) (bs : List UInt8) : rdTexts (n + 1) bs 0 = ((⟨(inText 4000 bs 0).1.toArray⟩ : ByteArray) :: (rdTexts n (inText 4000 bs 0).2.1 (inText 4000 bs 0).2.2).1, (rdTexts n (inText 4000 bs 0).2.1 (inText 4000 bs 0).2.2).2) := by
  rw [rdTexts, if_pos rfl]
theorem rdTexts_stop (n : Nat) (bs : List UInt8) (x : Int) (h : x ≠ 0) : rdTexts n bs x = ([], bs, x) := by
  cases n with
  | zero => rfl
  | succ n => rw [rdTexts, if_neg h]
theorem inTake_rest_few (n : Nat) (bs : List UInt8) (x : Int) : (inTake n bs x).2.1.length ≤ bs.length := by
  unfold inTake; split
  · exact Nat.le_refl _
  · split
    · exact Nat.le_refl _
    · simp only [List.length_drop]; omega
theorem inText_rest_few (most : Nat) (bs : List UInt8) (x : Int) : (inText most bs x).2.1.length ≤ bs.length := by
  unfold inText; split
  · exact inTake_rest_few 4 bs x
  · exact Nat.le_trans (inTake_rest_few _ _ _) (inTake_rest_few 4 bs x)
theorem inTake_first_few (n : Nat) (bs : List UInt8) (x : Int) : (inTake n bs x).1.length ≤ bs.length := by
  unfold inTake; split
  · simp
  · split
    · simp
    · simp only [List.length_take]; omega
theorem inText_first_few (most : Nat) (bs : List UInt8) (x : Int) : (inText most bs x).1.length ≤ bs.length := by
  unfold inText; split
  · simp
  · exact Nat.le_trans (inTake_first_few _ _ _) (inTake_rest_few 4 bs x)

/-- a message read of bytes: it, what is left, the error -/
def readW (bs : List UInt8) : WMsg × List UInt8 × Int :=
  let a0 := inTake 1 bs 0
  let a1 := inTake 4 a0.2.1 a0.2.2
  let a2 := inTake 4 a1.2.1 a1.2.2
  let a3 := inTake 4 a2.2.1 a2.2.2
  let a4 := inTake 4 a3.2.1 a3.2.2
  let a5 := inTake 1 a4.2.1 a4.2.2
  let a6 := inTake 1 a5.2.1 a5.2.2
  let q := rdTexts (beVal a6.1) a6.2.1 a6.2.2
  (⟨(beVal a0.1 : Nat), (beVal a1.1 : Nat), (beVal a2.1 : Nat), (beVal a3.1 : Nat), (beVal a4.1 : Nat), (beVal a5.1 : Int) == 1, q.1⟩, q.2.1, q.2.2)
def getW (b : List UInt8) : WMsg × Int :=
  if (openL b).2 ≠ 0 then (.none, (openL b).2)
  else if (endL (readW (openL b).1).2.1 (readW (openL b).1).2.2 ≠ 0 ∨ (putW (readW (openL b).1).1).2 ≠ 0) ∨ (putW (readW (openL b).1).1).1 ≠ b then (.none, 6)
  else ((readW (openL b).1).1, 0)

theorem rdTexts_all (es : List ByteArray) (h : ∀ s ∈ es, s.size ≤ 4000) : rdTexts es.length (textsL es) 0 = (es, [], 0) := by
  induction es with
  | nil => rfl
  | cons s es ih =>
    have h1 := h s (by simp)
    have h2 := ih (fun x hx => h x (by simp [hx]))
    rw [List.length_cons, rdTexts_step, textsL_cons, inText_app s.data.toList (textsL es) 4000 (by rw [← size_list]; exact h1) (by rw [← size_list]; omega)]
    simp only [h2]
theorem inTake_be (k n : Nat) (b : List UInt8) (h : n < 256 ^ k) : inTake k (beBytes k n ++ b) 0 = (beBytes k n, b, 0) := inTake_app _ _ k (beBytes_length _ _)
theorem readW_msg (m : WMsg) (h : m.right) : readW (msgL m) = (m, [], 0) := by
  obtain ⟨⟨ht, hl, he, hc⟩, hs, hk, hn⟩ := h
  unfold smallP at ht hl he hc
  have hok : okN m.ok < 256 ^ 1 := by unfold okN; split <;> decide
  have e0 : inTake 1 (msgL m) 0 = (beBytes 1 m.k.toNat, beBytes 4 m.t.toNat ++ (beBytes 4 m.l.toNat ++ (beBytes 4 m.e.toNat ++ (beBytes 4 m.c.toNat ++ (beBytes 1 (okN m.ok) ++ (beBytes 1 m.es.length ++ textsL m.es))))), 0) := by
    unfold msgL headL
    simp only [List.append_assoc]
    exact inTake_be _ _ _ (by omega)
  unfold readW
  rw [e0]; dsimp only
  rw [inTake_be 4 m.t.toNat _ (by omega)]; dsimp only
  rw [inTake_be 4 m.l.toNat _ (by omega)]; dsimp only
  rw [inTake_be 4 m.e.toNat _ (by omega)]; dsimp only
  rw [inTake_be 4 m.c.toNat _ (by omega)]; dsimp only
  rw [inTake_be 1 (okN m.ok) _ hok]; dsimp only
  rw [inTake_be 1 m.es.length _ (by omega)]; dsimp only
  rw [beVal_beBytes 1 m.k.toNat (by omega), beVal_beBytes 4 m.t.toNat (by omega), beVal_beBytes 4 m.l.toNat (by omega), beVal_beBytes 4 m.e.toNat (by omega), beVal_beBytes 4 m.c.toNat (by omega), beVal_beBytes 1 (okN m.ok) hok, beVal_beBytes 1 m.es.length (by omega), rdTexts_all m.es hs]
  have h1 : ((m.k.toNat : Nat) : Int) = m.k := by omega
  have h2 : ((m.t.toNat : Nat) : Int) = m.t := by omega
  have h3 : ((m.l.toNat : Nat) : Int) = m.l := by omega
  have h4 : ((m.e.toNat : Nat) : Int) = m.e := by omega
  have h5 : ((m.c.toNat : Nat) : Int) = m.c := by omega
  have h6 : (((okN m.ok : Nat) : Int) == 1) = m.ok := by cases m.ok <;> rfl
  rw [h1, h2, h3, h4, h5, h6]
theorem putW_ok (m : WMsg) (h : (putW m).2 = 0) : m.right ∧ putW m = (sum4 (msgL m) ++ msgL m, 0) := by
  by_cases hr : m.right
  · exact ⟨hr, by unfold putW; rw [if_pos hr]⟩
  · unfold putW at h; rw [if_neg hr] at h; cases h
theorem putW_bad (m : WMsg) (h : ¬ m.right) : putW m = ([], 1) := by unfold putW; rw [if_neg h]
theorem getW_put (m : WMsg) (h : (putW m).2 = 0) : getW (putW m).1 = (m, 0) := by
  obtain ⟨hr, hp⟩ := putW_ok m h
  have ho : openL (putW m).1 = (msgL m, 0) := by rw [hp]; exact openL_seal _
  unfold getW
  rw [ho]
  simp only [ne_eq, not_true_eq_false, if_false, readW_msg m hr]
  rw [if_neg]
  rw [h]
  simp [endL]
theorem putW_few (m : WMsg) : (putW m).1.length ≤ 16039 := by
  unfold putW; split
  · next hr =>
    have := textsL_few m.es hr.2.1
    have := hr.2.2.2
    unfold msgL
    simp only [List.length_append, sum4_length, headL_length]
    omega
  · simp
end Go.Proofs.YtadhboioaacaeaaGreat
