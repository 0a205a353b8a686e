/- chapter 7: stored events, plainly; their bytes, and what bytes say. -/
import Derived.Test.YtfpalamoaflilaaEvLaw
namespace Go.Proofs.Ytfpalamoaflilaa
open Go.RowKit
set_option maxHeartbeats 1000000
set_option linter.unusedVariables false

structure St where
  ev : Ev
  s : ByteArray
  v : Int
  p : Int
  t : Int
def St.none : St := ⟨.none, ByteArray.empty, 0, 0, 0⟩
def St.can (x : St) : St := ⟨x.ev.can, x.s, x.v, x.p, x.t⟩
structure St.fits (x : St) : Prop where
  ev : x.ev.fits
  s1 : x.s.size ≤ 9223372036854775807
  v0 : -9223372036854775808 ≤ x.v
  v1 : x.v ≤ 9223372036854775807
  p0 : -9223372036854775808 ≤ x.p
  p1 : x.p ≤ 9223372036854775807
  t0 : -9223372036854775808 ≤ x.t
  t1 : x.t ≤ 9223372036854775807
def okS (x : St) : Bool := validE x.ev && nameB x.s && withinB x.v && withinB x.p && withinB x.t
def stL (x : St) : List UInt8 := evL x.ev ++ (textL x.s.data.toList ++ (be64 x.v ++ (be64 x.p ++ be64 x.t)))
def putS (x : St) : List UInt8 × Int := if okS x = true then (stL x, 0) else ([], 1)
def sameS (a b : St) : Bool := sameE a.ev b.ev && decide (a.s = b.s) && decide (a.v = b.v) && decide (a.p = b.p) && decide (a.t = b.t)
/-- a stored event, what is left, the error -/
def readS (bs : List UInt8) : St × List UInt8 × Int :=
  let q := rdEv bs 0
  let a := inText 60 q.2.1 q.2.2
  let b0 := inTake 8 a.2.1 a.2.2
  let b1 := inTake 8 b0.2.1 b0.2.2
  let b2 := inTake 8 b1.2.1 b1.2.2
  (⟨q.1, ⟨a.1.toArray⟩, i64L b0.1, i64L b1.1, i64L b2.1⟩, b2.2.1, b2.2.2)
def getS (b : List UInt8) : St × Int :=
  if endL (readS b).2.1 (readS b).2.2 ≠ 0 then (.none, endL (readS b).2.1 (readS b).2.2)
  else if (putS (readS b).1).2 ≠ 0 ∨ (putS (readS b).1).1 ≠ b then (.none, 6)
  else ((readS b).1, 0)
theorem okS_size {x : St} (h : okS x = true) : validE x.ev = true ∧ x.s.size ≤ 60 := by
  unfold okS at h
  simp only [Bool.and_eq_true] at h
  have h2 := h.1.1.1.2
  unfold nameB at h2
  simp only [Bool.and_eq_true, decide_eq_true_eq] at h2
  exact ⟨h.1.1.1.1, by omega⟩
theorem okS_can (x : St) : okS x.can = okS x := rfl
theorem stL_can (x : St) : stL x.can = stL x := by unfold stL; show evL x.ev.can ++ _ = _; rw [evL_can]; rfl
theorem putS_can (x : St) : putS x.can = putS x := by unfold putS; rw [okS_can, stL_can]
theorem putS_ok {x : St} (h : (putS x).2 = 0) : okS x = true ∧ putS x = (stL x, 0) := by
  unfold putS at h
  split at h
  · next hc => exact ⟨hc, by unfold putS; rw [if_pos hc]⟩
  · cases h
theorem stL_length {x : St} (h : okS x = true) : (stL x).length ≤ 400 := by
  obtain ⟨h1, h2⟩ := okS_size h
  have h3 := validE_size h1
  unfold stL
  simp only [List.length_append, evL_length, textL_length, be64_length, ← size_list]
  omega
theorem readS_put (x : St) (h : okS x = true) (hf : x.fits) : readS (stL x) = (x.can, [], 0) := by
  obtain ⟨h1, h2⟩ := okS_size h
  have h3 := validE_size h1
  have e0 : rdEv (stL x) 0 = (x.ev.can, textL x.s.data.toList ++ (be64 x.v ++ (be64 x.p ++ (be64 x.t ++ []))), 0) := by
    rw [List.append_nil]; exact rdEv_app x.ev _ h1 hf.ev
  unfold readS
  rw [e0]; dsimp only
  rw [inText_app _ _ 60 (by rw [← size_list]; omega) (by rw [← size_list]; omega)]; dsimp only
  rw [inTake_be64]; dsimp only
  rw [inTake_be64]; dsimp only
  rw [inTake_be64]; dsimp only
  rw [i64L_be64 _ ⟨hf.v0, hf.v1⟩, i64L_be64 _ ⟨hf.p0, hf.p1⟩, i64L_be64 _ ⟨hf.t0, hf.t1⟩]
  rfl
theorem getS_put (x : St) (h : (putS x).2 = 0) (hf : x.fits) : getS (putS x).1 = (x.can, 0) := by
  obtain ⟨hc, hp⟩ := putS_ok h
  have hr : readS (putS x).1 = (x.can, [], 0) := by rw [hp]; exact readS_put x hc hf
  unfold getS
  rw [hr]
  dsimp only
  rw [if_neg (by simp [endL]), if_neg]
  rw [putS_can, h]
  simp
theorem sameE_refl (a : Ev) : sameE a a = true := (sameE_iff a a).2 rfl
theorem sameE_can_self (a : Ev) : sameE a.can a = true := (sameE_iff _ _).2 (by unfold Ev.can; simp only [canB_canB])
theorem sameS_refl (a : St) : sameS a a = true := by unfold sameS; simp [sameE_refl]
theorem sameS_can (a : St) : sameS a.can a = true := by unfold sameS St.can; simp [sameE_can_self]
/-- has it but short texts? -/
def fewS (x : St) : Bool := !(decide (100 < x.s.size) || decide (100 < x.ev.ty.size) || decide (300 < x.ev.da.size))
end Go.Proofs.Ytfpalamoaflilaa
