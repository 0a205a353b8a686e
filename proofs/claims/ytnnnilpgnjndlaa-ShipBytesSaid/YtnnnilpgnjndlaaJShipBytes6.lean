/- chapter 7: events and commands, plainly; their bytes, and what bytes say. -/
import Derived.Test.YtnnnilpgnjndlaaJShipBytes4
import Derived.Test.YtnnnilpgnjndlaaJShipBytes2
import Derived.Test.YtnnnilpgnjndlaaJShipBytes1
import Derived.RegionTactic
import Derived.Deep.QuietTactic
import Derived.BigQuiet
import Derived.Deep.RegionWith

namespace Go.Proofs.Ytnnnilpgnjndlaa
open Go.RowKit
set_option maxHeartbeats 1000000
set_option linter.unusedVariables false

/-- a byte that a name may have -/
def nameC (c : UInt8) : Bool := !(decide (c.toNat < 33) || decide (126 < c.toNat) || decide (c.toNat = 64))
def nameB (s : ByteArray) : Bool := decide (1 ≤ s.size) && decide (s.size ≤ 60) && s.data.toList.all nameC
def withinB (n : Int) : Bool := decide (0 ≤ n ∧ n ≤ 1099511627776)
def expectsB (n : Int) : Bool := withinB n || decide (n = -1) || decide (n = -2) || decide (n = -4)

/-- is a number none? (the bits of a float64) -/
def nanB (v : Nat) : Bool := FloatKind.f64.format.order v v != some .eq
/-- a number's bits; of all that are none the one -/
def canB (v : Nat) : Nat := if nanB v = true then 9221120237041090560 else v
theorem nanB_nan : nanB 9221120237041090560 = true := by decide
theorem canB_canB (v : Nat) : canB (canB v) = canB v := by
  unfold canB
  split
  · rw [if_pos nanB_nan]
  · rfl
theorem canB_lt {v : Nat} (h : v < 18446744073709551616) : canB v < 18446744073709551616 := by unfold canB; split <;> omega

structure Ev where
  id : Int
  ty : ByteArray
  da : ByteArray
  va : Nat
def Ev.none : Ev := ⟨0, ByteArray.empty, ByteArray.empty, 0⟩
def Ev.can (e : Ev) : Ev := ⟨e.id, e.ty, e.da, canB e.va⟩
/-- an event's numbers are numbers of their types -/
structure Ev.fits (e : Ev) : Prop where
  i0 : -9223372036854775808 ≤ e.id
  i1 : e.id ≤ 9223372036854775807
  t1 : e.ty.size ≤ 9223372036854775807
  d1 : e.da.size ≤ 9223372036854775807
  v1 : e.va < 18446744073709551616
def validE (e : Ev) : Bool := decide (1 ≤ e.id) && nameB e.ty && decide (e.da.size ≤ 200)
def sameE (a b : Ev) : Bool := decide (a.id = b.id) && decide (a.ty = b.ty) && decide (a.da = b.da) && decide (canB a.va = canB b.va)
structure Cmd where
  k : Int
  t : Int
  s : ByteArray
  x : Int
  es : List Ev
  m0 : Int
  m1 : Int
  m2 : Int
def Cmd.none : Cmd := ⟨0, 0, ByteArray.empty, 0, [], 0, 0, 0⟩
def Cmd.can (c : Cmd) : Cmd := ⟨c.k, c.t, c.s, c.x, c.es.map Ev.can, c.m0, c.m1, c.m2⟩
structure Cmd.fits (c : Cmd) : Prop where
  k0 : -9223372036854775808 ≤ c.k
  k1 : c.k ≤ 9223372036854775807
  t0 : -9223372036854775808 ≤ c.t
  t1 : c.t ≤ 9223372036854775807
  x0 : -9223372036854775808 ≤ c.x
  x1 : c.x ≤ 9223372036854775807
  a0 : -9223372036854775808 ≤ c.m0
  a1 : c.m0 ≤ 9223372036854775807
  b0 : -9223372036854775808 ≤ c.m1
  b1 : c.m1 ≤ 9223372036854775807
  d0 : -9223372036854775808 ≤ c.m2
  d1 : c.m2 ≤ 9223372036854775807
  s1 : c.s.size ≤ 9223372036854775807
  es : ∀ e ∈ c.es, e.fits
/-- why can't events be appended together? -/
def evsErr (l : List Ev) : Int := if l.length = 0 then 1 else if 8 < l.length then 2 else if l.all validE = true then 0 else 1
def metaB (a b d : Int) : Bool := withinB a && withinB b && withinB d
/-- has it parts that its kind does not have? -/
def spareB (c : Cmd) : Bool :=
  (!(decide (c.k = 1) || decide (c.k = 2) || decide (c.k = 3)) && !decide (c.s.size = 0)) || (!(decide (c.k = 1) || decide (c.k = 3)) && !decide (c.x = 0)) ||
    (!decide (c.k = 1) && decide (0 < c.es.length)) || (!decide (c.k = 2) && !(decide (c.m0 = 0) && decide (c.m1 = 0) && decide (c.m2 = 0)))
def checkC (c : Cmd) : Int :=
  if c.k < 1 ∨ 5 < c.k ∨ withinB c.t = false then 1
  else if c.k ≤ 3 ∧ nameB c.s = false then 1
  else if c.k = 1 ∧ evsErr c.es ≠ 0 then evsErr c.es
  else if ((c.k = 1 ∨ c.k = 3) ∧ expectsB c.x = false) ∨ (c.k = 2 ∧ metaB c.m0 c.m1 c.m2 = false) ∨ spareB c = true then 1 else 0

/-! ### bytes -/
def evL (e : Ev) : List UInt8 := be64 e.id ++ (textL e.ty.data.toList ++ (textL e.da.data.toList ++ beBytes 8 (canB e.va)))
def evsL (l : List Ev) : List UInt8 := (l.map evL).flatten
def headC (c : Cmd) : List UInt8 := beBytes 1 c.k.toNat ++ (be64 c.t ++ (textL c.s.data.toList ++ (be64 c.x ++ beBytes 1 c.es.length)))
def metaL (c : Cmd) : List UInt8 := be64 c.m0 ++ (be64 c.m1 ++ be64 c.m2)
def cmdL (c : Cmd) : List UInt8 := headC c ++ (evsL c.es ++ metaL c)
def putC (c : Cmd) : List UInt8 × Int := if checkC c = 0 then (cmdL c, 0) else ([], checkC c)
theorem evsL_cons (e : Ev) (l : List Ev) : evsL (e :: l) = evL e ++ evsL l := by simp [evsL]
theorem evsL_snoc (e : Ev) (l : List Ev) : evsL (l ++ [e]) = evsL l ++ evL e := by simp [evsL]
theorem evsL_take (l : List Ev) (k : Nat) (e : Ev) (h : l[k]? = some e) : evsL (l.take (k + 1)) = evsL (l.take k) ++ evL e := by
  have hk := (List.getElem?_eq_some_iff.mp h).1
  rw [show l.take (k + 1) = l.take k ++ [e] from by rw [List.take_succ_eq_append_getElem hk]; congr 2; exact (List.getElem?_eq_some_iff.mp h).2, evsL_snoc]
theorem evL_length (e : Ev) : (evL e).length = e.ty.size + e.da.size + 24 := by
  unfold evL; simp only [List.length_append, be64_length, beBytes_length, textL_length, ← size_list]; omega

/-! ### what is read -/
/-- an event, what is left, the error -/
def rdEv (bs : List UInt8) (x : Int) : Ev × List UInt8 × Int :=
  let a0 := inTake 8 bs x
  let a1 := inText 60 a0.2.1 a0.2.2
  let a2 := inText 200 a1.2.1 a1.2.2
  let a3 := inTake 8 a2.2.1 a2.2.2
  (⟨i64L a0.1, ⟨a1.1.toArray⟩, ⟨a2.1.toArray⟩, canB (beVal a3.1)⟩, a3.2.1, a3.2.2)
def rdEvs : Nat → List UInt8 → Int → List Ev × List UInt8 × Int
  | 0, bs, x => ([], bs, x)
  | n + 1, bs, x => if x = 0 then ((rdEv bs 0).1 :: (rdEvs n (rdEv bs 0).2.1 (rdEv bs 0).2.2).1, (rdEvs n (rdEv bs 0).2.1 (rdEv bs 0).2.2).2) else ([], bs, x)
theorem rdEvs_step (n : Nat) (bs : List UInt8) : rdEvs (n + 1) bs 0 = ((rdEv bs 0).1 :: (rdEvs n (rdEv bs 0).2.1 (rdEv bs 0).2.2).1, (rdEvs n (rdEv bs 0).2.1 (rdEv bs 0).2.2).2) := by
  rw [rdEvs, if_pos rfl]
theorem rdEvs_stop (n : Nat) (bs : List UInt8) (x : Int) (h : x ≠ 0) : rdEvs n bs x = ([], bs, x) := by
  cases n with
  | zero => rfl
  | succ n => rw [rdEvs, if_neg h]
theorem rdEvs_few : ∀ (n : Nat) (bs : List UInt8) (x : Int), (rdEvs n bs x).1.length ≤ n
  | 0, bs, x => by simp [rdEvs]
  | n + 1, bs, x => by
    rw [rdEvs]
    split
    · have := rdEvs_few n (rdEv bs 0).2.1 (rdEv bs 0).2.2
      simp only [List.length_cons]
      omega
    · simp
/-- a command, what is left, the error -/
def readC (bs : List UInt8) : Cmd × List UInt8 × Int :=
  let a0 := inTake 1 bs 0
  let a1 := inTake 8 a0.2.1 a0.2.2
  let a2 := inText 60 a1.2.1 a1.2.2
  let a3 := inTake 8 a2.2.1 a2.2.2
  let a4 := inTake 1 a3.2.1 a3.2.2
  let q := rdEvs (beVal a4.1) a4.2.1 a4.2.2
  let b0 := inTake 8 q.2.1 q.2.2
  let b1 := inTake 8 b0.2.1 b0.2.2
  let b2 := inTake 8 b1.2.1 b1.2.2
  (⟨(beVal a0.1 : Nat), i64L a1.1, ⟨a2.1.toArray⟩, i64L a3.1, q.1, i64L b0.1, i64L b1.1, i64L b2.1⟩, b2.2.1, b2.2.2)
def getC (b : List UInt8) : Cmd × Int :=
  if endL (readC b).2.1 (readC b).2.2 ≠ 0 then (.none, endL (readC b).2.1 (readC b).2.2)
  else if (putC (readC b).1).2 ≠ 0 ∨ (putC (readC b).1).1 ≠ b then (.none, 6)
  else ((readC b).1, 0)

theorem inTake_be2 (k n : Nat) (b : List UInt8) : inTake k (beBytes k n ++ b) 0 = (beBytes k n, b, 0) := inTake_app _ _ k (beBytes_length _ _)
theorem inTake_be64 (v : Int) (b : List UInt8) : inTake 8 (be64 v ++ b) 0 = (be64 v, b, 0) := inTake_app _ _ 8 (be64_length v)
theorem validE_size {e : Ev} (h : validE e = true) : e.ty.size ≤ 60 ∧ e.da.size ≤ 200 := by
  unfold validE nameB at h
  simp only [Bool.and_eq_true, decide_eq_true_eq] at h
  omega
theorem rdEv_app (e : Ev) (b : List UInt8) (hv : validE e = true) (hf : e.fits) : rdEv (evL e ++ b) 0 = (e.can, b, 0) := by
  obtain ⟨h1, h2⟩ := validE_size hv
  have e0 : inTake 8 (evL e ++ b) 0 = (be64 e.id, textL e.ty.data.toList ++ (textL e.da.data.toList ++ (beBytes 8 (canB e.va) ++ b)), 0) := by
    unfold evL; simp only [List.append_assoc]; exact inTake_be64 _ _
  unfold rdEv
  rw [e0]; dsimp only
  rw [inText_app _ _ 60 (by rw [← size_list]; omega) (by rw [← size_list]; omega)]; dsimp only
  rw [inText_app _ _ 200 (by rw [← size_list]; omega) (by rw [← size_list]; omega)]; dsimp only
  rw [inTake_be2 8 _ _]; dsimp only
  rw [i64L_be64 _ ⟨hf.i0, hf.i1⟩, beVal_beBytes 8 _ (canB_lt hf.v1), canB_canB]
  rfl
theorem rdEvs_app (l : List Ev) (b : List UInt8) (hv : l.all validE = true) (hf : ∀ e ∈ l, e.fits) : rdEvs l.length (evsL l ++ b) 0 = (l.map Ev.can, b, 0) := by
  induction l with
  | nil => rfl
  | cons e l ih =>
    rw [List.all_cons, Bool.and_eq_true] at hv
    rw [List.length_cons, rdEvs_step, evsL_cons, List.append_assoc, rdEv_app e _ hv.1 (hf e (by simp)), ih hv.2 (fun x hx => hf x (by simp [hx]))]
    rfl
/-- what is right of a command that can be -/
theorem checkC_right {c : Cmd} (h : checkC c = 0) : (1 ≤ c.k ∧ c.k ≤ 5) ∧ c.s.size ≤ 60 ∧ c.es.length ≤ 8 ∧ c.es.all validE = true := by
  unfold checkC at h
  split at h
  · cases h
  next h1 =>
  split at h
  · cases h
  next h2 =>
  split at h
  · next h3 => exact absurd h h3.2
  next h3 =>
  split at h
  · cases h
  next h4 =>
  refine ⟨by omega, ?_, ?_⟩
  · by_cases hk : c.k ≤ 3
    · have hn : nameB c.s = true := by cases hq : nameB c.s with
        | true => rfl
        | false => exact absurd ⟨hk, hq⟩ h2
      unfold nameB at hn
      simp only [Bool.and_eq_true, decide_eq_true_eq] at hn
      omega
    · have h5 : spareB c = false := by cases hq : spareB c with
        | false => rfl
        | true => exact absurd (.inr (.inr hq)) h4
      unfold spareB at h5
      simp only [Bool.or_eq_false_iff, Bool.and_eq_false_iff, Bool.not_eq_false', Bool.or_eq_true, decide_eq_true_eq] at h5
      have := h5.1.1.1
      omega
  · by_cases hk : c.k = 1
    · have he : evsErr c.es = 0 := Classical.byContradiction fun hq => h3 ⟨hk, hq⟩
      unfold evsErr at he
      split at he
      · cases he
      · split at he
        · cases he
        · split at he
          · next h6 => exact ⟨by omega, h6⟩
          · cases he
    · have h5 : spareB c = false := by cases hq : spareB c with
        | false => rfl
        | true => exact absurd (.inr (.inr hq)) h4
      unfold spareB at h5
      simp only [Bool.or_eq_false_iff, Bool.and_eq_false_iff, Bool.not_eq_false', decide_eq_true_eq, decide_eq_false_iff_not] at h5
      have hl : c.es.length = 0 := by have := h5.1.2; omega
      rw [List.eq_nil_of_length_eq_zero hl]
      exact ⟨by simp, rfl⟩
theorem readC_app (c : Cmd) (b : List UInt8) (h : checkC c = 0) (hf : c.fits) : readC (cmdL c ++ b) = (c.can, b, 0) := by
  obtain ⟨hk, hs, hn, hv⟩ := checkC_right h
  have e0 : inTake 1 (cmdL c ++ b) 0 = (beBytes 1 c.k.toNat, be64 c.t ++ (textL c.s.data.toList ++ (be64 c.x ++ (beBytes 1 c.es.length ++ (evsL c.es ++ (be64 c.m0 ++ (be64 c.m1 ++ (be64 c.m2 ++ b))))))), 0) := by
    unfold cmdL headC metaL; simp only [List.append_assoc]; exact inTake_be2 _ _ _
  unfold readC
  rw [e0]; dsimp only
  rw [inTake_be64]; dsimp only
  rw [inText_app _ _ 60 (by rw [← size_list]; omega) (by rw [← size_list]; omega)]; dsimp only
  rw [inTake_be64]; dsimp only
  rw [inTake_be2]; dsimp only
  rw [beVal_beBytes 1 c.es.length (by omega), rdEvs_app c.es _ hv hf.es]; dsimp only
  rw [inTake_be64]; dsimp only
  rw [inTake_be64]; dsimp only
  rw [inTake_be64]; dsimp only
  rw [beVal_beBytes 1 c.k.toNat (by omega), i64L_be64 _ ⟨hf.t0, hf.t1⟩, i64L_be64 _ ⟨hf.x0, hf.x1⟩, i64L_be64 _ ⟨hf.a0, hf.a1⟩, i64L_be64 _ ⟨hf.b0, hf.b1⟩, i64L_be64 _ ⟨hf.d0, hf.d1⟩]
  rw [show ((c.k.toNat : Nat) : Int) = c.k from by omega]
  rfl
theorem evL_can (e : Ev) : evL e.can = evL e := by unfold evL Ev.can; simp only [canB_canB]
theorem evsL_can (l : List Ev) : evsL (l.map Ev.can) = evsL l := by
  induction l with
  | nil => rfl
  | cons e l ih => rw [List.map_cons, evsL_cons, evsL_cons, evL_can, ih]
theorem validE_can (l : List Ev) : (l.map Ev.can).all validE = l.all validE := by
  induction l with
  | nil => rfl
  | cons e l ih => rw [List.map_cons, List.all_cons, List.all_cons, ih]; rfl
theorem checkC_can (c : Cmd) : checkC c.can = checkC c := by
  have h1 : evsErr (c.es.map Ev.can) = evsErr c.es := by unfold evsErr; rw [validE_can, List.length_map]
  have h2 : spareB c.can = spareB c := by unfold spareB Cmd.can; simp only [List.length_map]
  unfold checkC
  rw [h2]
  unfold Cmd.can
  dsimp only
  rw [h1]
theorem putC_can (c : Cmd) : putC c.can = putC c := by
  have h1 : cmdL c.can = cmdL c := by unfold cmdL headC metaL Cmd.can; dsimp only; rw [evsL_can, List.length_map]
  unfold putC
  rw [checkC_can, h1]
theorem putC_ok {c : Cmd} (h : (putC c).2 = 0) : checkC c = 0 ∧ putC c = (cmdL c, 0) := by
  unfold putC at h
  split at h
  · next hc => exact ⟨hc, by unfold putC; rw [if_pos hc]⟩
  · next hc => exact absurd h hc
theorem putC_snd (c : Cmd) : (putC c).2 = checkC c := by
  unfold putC; split
  · next h => exact h.symm
  · rfl
theorem putC_bad {c : Cmd} (h : checkC c ≠ 0) : putC c = ([], checkC c) := by unfold putC; rw [if_neg h]
theorem getC_put (c : Cmd) (h : (putC c).2 = 0) (hf : c.fits) : getC (putC c).1 = (c.can, 0) := by
  obtain ⟨hc, hp⟩ := putC_ok h
  have hr : readC (putC c).1 = (c.can, [], 0) := by have := readC_app c [] hc hf; rw [List.append_nil] at this; rw [hp]; exact this
  unfold getC
  rw [hr]
  dsimp only
  rw [if_neg (by simp [endL]), if_neg]
  rw [putC_can, h]
  simp
/-- what was got has just these bytes -/
theorem getC_ok {b : List UInt8} (h : (getC b).2 = 0) : (putC (getC b).1) = (b, 0) ∧ readC b = ((getC b).1, [], 0) := by
  unfold getC at h ⊢
  split at h
  · next h1 => exact absurd h h1
  next h1 =>
  split at h
  · cases h
  next h2 =>
  rw [if_neg h1, if_neg h2]
  dsimp only
  have h3 : (putC (readC b).1).2 = 0 ∧ (putC (readC b).1).1 = b := by
    constructor
    · exact Classical.byContradiction fun hq => h2 (.inl hq)
    · exact Classical.byContradiction fun hq => h2 (.inr hq)
  have h4 : (readC b).2.2 = 0 ∧ (readC b).2.1 = [] := by
    unfold endL at h1
    split at h1
    · exact absurd (by decide) h1
    · next hq =>
      have hz : (readC b).2.2 = 0 := Classical.byContradiction h1
      refine ⟨hz, ?_⟩
      apply Classical.byContradiction
      intro hne
      exact hq ⟨hz, List.length_pos_iff.2 hne⟩
  exact ⟨Prod.ext h3.2 h3.1, Prod.ext rfl (Prod.ext h4.2 h4.1)⟩
/-- with more behind it it is no command -/
theorem getC_more (c : Cmd) (b : List UInt8) (h : (putC c).2 = 0) (hf : c.fits) (hb : b ≠ []) : (getC ((putC c).1 ++ b)).2 ≠ 0 := by
  obtain ⟨hc, hp⟩ := putC_ok h
  have hr : readC ((putC c).1 ++ b) = (c.can, b, 0) := by rw [hp]; exact readC_app c b hc hf
  intro h0
  have := (getC_ok h0).2
  rw [hr] at this
  have := (Prod.mk.inj this).2
  exact hb (Prod.mk.inj this).1
theorem canB_inj {a b : Ev} (h : a.can = b.can) : sameE a b = true := by
  unfold Ev.can at h
  injection h with h1 h2 h3 h4
  unfold sameE
  simp [h1, h2, h3, h4]
theorem sameE_can {a b : Ev} (h : sameE a b = true) : a.can = b.can := by
  unfold sameE at h
  simp only [Bool.and_eq_true, decide_eq_true_eq] at h
  obtain ⟨⟨⟨h1, h2⟩, h3⟩, h4⟩ := h
  unfold Ev.can
  rw [h1, h2, h3, h4]
def sameEs (l m : List Ev) : Bool := decide (l.length = m.length) && (l.zip m).all fun p => sameE p.1 p.2
/-- are two commands alike? -/
def sameC (a b : Cmd) : Bool :=
  decide (a.k = b.k) && decide (a.t = b.t) && decide (a.s = b.s) && decide (a.x = b.x) && (decide (a.m0 = b.m0) && decide (a.m1 = b.m1) && decide (a.m2 = b.m2)) && sameEs a.es b.es
theorem sameE_iff (a b : Ev) : sameE a b = true ↔ a.can = b.can := ⟨sameE_can, canB_inj⟩
theorem zip_same : ∀ (l m : List Ev), l.length = m.length → (((l.zip m).all fun p => sameE p.1 p.2) = true ↔ l.map Ev.can = m.map Ev.can)
  | [], [], _ => by simp
  | [], b :: m, h => by simp at h
  | a :: l, [], h => by simp at h
  | a :: l, b :: m, h => by
    have ih := zip_same l m (by simpa using h)
    rw [List.zip_cons_cons, List.all_cons, Bool.and_eq_true, ih, List.map_cons, List.map_cons, sameE_iff, List.cons.injEq]
theorem sameEs_iff (l m : List Ev) : sameEs l m = true ↔ l.map Ev.can = m.map Ev.can := by
  unfold sameEs
  rw [Bool.and_eq_true, decide_eq_true_eq]
  constructor
  · rintro ⟨h1, h2⟩; exact (zip_same l m h1).1 h2
  · intro h
    have h1 : l.length = m.length := by have := congrArg List.length h; simpa using this
    exact ⟨h1, (zip_same l m h1).2 h⟩
theorem sameC_iff (a b : Cmd) : sameC a b = true ↔ a.can = b.can := by
  obtain ⟨k, t, s, x, es, m0, m1, m2⟩ := a
  obtain ⟨k', t', s', x', es', m0', m1', m2'⟩ := b
  unfold sameC Cmd.can
  simp only [Bool.and_eq_true, decide_eq_true_eq, sameEs_iff, Cmd.mk.injEq]
  constructor
  · rintro ⟨⟨⟨⟨⟨h1, h2⟩, h3⟩, h4⟩, ⟨h5, h6⟩, h7⟩, h8⟩; exact ⟨h1, h2, h3, h4, h8, h5, h6, h7⟩
  · rintro ⟨h1, h2, h3, h4, h8, h5, h6, h7⟩; exact ⟨⟨⟨⟨⟨h1, h2⟩, h3⟩, h4⟩, ⟨h5, h6⟩, h7⟩, h8⟩
theorem sameC_refl (a : Cmd) : sameC a a = true := (sameC_iff a a).2 rfl
theorem sameC_symm (a b : Cmd) : sameC a b = sameC b a := by
  rw [Bool.eq_iff_iff, sameC_iff, sameC_iff]
  exact ⟨Eq.symm, Eq.symm⟩
/-- alike are just those whose bytes are alike -/
theorem putC_same (a b : Cmd) (ha : (putC a).2 = 0) (hb : (putC b).2 = 0) (fa : a.fits) (fb : b.fits) : decide ((putC a).1 = (putC b).1) = sameC a b := by
  rw [Bool.eq_iff_iff, sameC_iff, decide_eq_true_eq]
  constructor
  · intro h
    have h1 := getC_put a ha fa
    have h2 := getC_put b hb fb
    rw [h, h2] at h1
    exact (Prod.mk.inj h1).1.symm
  · intro h
    rw [← putC_can a, h, putC_can b]
end Go.Proofs.Ytnnnilpgnjndlaa

/- chapter 7: events as values, rows of events. -/
namespace Go.Proofs.Ytnnnilpgnjndlaa
open Go.RowKit
set_option maxHeartbeats 1000000
set_option linter.unusedVariables false

theorem run_store_flt (P : Program) (w : World) (a : Addr) (k : FloatKind) (b : Nat) (m : Mode) : (store a (.float k b) m).run P w = stored P w a (.float k b) m := run_store P w a _ m rfl
def evC (e : Ev) : List Value := [.int .i64 e.id, .string e.ty, .string e.da, .float .f64 e.va]
def evA (e : Ev) : Value := .agg #[.int .i64 e.id, .string e.ty, .string e.da, .float .f64 e.va]
def evVs (l : List Ev) : List Value := l.flatMap evC
theorem evC_length (e : Ev) : (evC e).length = 4 := rfl
theorem evVs_nil : evVs [] = [] := rfl
theorem evVs_cons (p : Ev) (ps : List Ev) : evVs (p :: ps) = evC p ++ evVs ps := rfl
theorem evVs_append (ps qs : List Ev) : evVs (ps ++ qs) = evVs ps ++ evVs qs := by simp [evVs]
theorem evVs_length (ps : List Ev) : (evVs ps).length = ps.length * 4 := by
  induction ps with
  | nil => rfl
  | cons p ps ih => rw [evVs_cons, List.length_append, ih, List.length_cons, evC_length]; omega
theorem evVs_drop (ps : List Ev) (k : Nat) : (evVs ps).drop (k * 4) = evVs (ps.drop k) := by
  induction k generalizing ps with
  | zero => simp
  | succ k ih =>
    cases ps with
    | nil => simp [evVs]
    | cons p ps =>
      rw [evVs_cons, List.drop_succ_cons, ← ih ps, show (k + 1) * 4 = (evC p).length + k * 4 from by rw [evC_length]; omega, List.drop_append]
      simp
theorem evVs_take (ps : List Ev) (k : Nat) : (evVs ps).take (k * 4) = evVs (ps.take k) := by
  induction k generalizing ps with
  | zero => simp [evVs]
  | succ k ih =>
    cases ps with
    | nil => simp [evVs]
    | cons p ps =>
      rw [evVs_cons, List.take_succ_cons, evVs_cons, ← ih ps, show (k + 1) * 4 = (evC p).length + k * 4 from by rw [evC_length]; omega, List.take_append]
      simp [List.take_of_length_le]
theorem evVs_get (ps : List Ev) (k j : Nat) (p : Ev) (h : ps[k]? = some p) (hj : j < 4) : (evVs ps)[k * 4 + j]? = (evC p)[j]? := by
  rw [← List.getElem?_drop, evVs_drop, List.drop_eq_getElem_cons (List.getElem?_eq_some_iff.1 h).1, (List.getElem?_eq_some_iff.1 h).2, evVs_cons]
  exact List.getElem?_append_left (by rw [evC_length]; exact hj)
theorem evC_one (p : Ev) : ∀ u ∈ evC p, u.oneCell' = true := by simp [evC, Value.oneCell']
theorem evVs_one (ps : List Ev) : ∀ u ∈ evVs ps, u.oneCell' = true := by
  intro u hu
  obtain ⟨p, _, hp⟩ := List.mem_flatMap.1 hu
  exact evC_one p u hp
theorem add_nextV (a : Addr) (i j : Nat) (hj : 0 < j) : (⟨(a.add i).block, (a.add i).off + j, none⟩ : Addr) = a.add (i + j) := by
  by_cases hi : i = 0
  · subst hi
    unfold Addr.add
    rw [if_pos rfl, if_neg (by omega), Nat.zero_add]
  · unfold Addr.add
    rw [if_neg hi, if_neg (by omega), Nat.add_assoc]
/-- the four cells of an event -/
def evAt (w : World) (a : Addr) (p : Ev) : Prop := w.cell? a = some (.int .i64 p.id) ∧ w.cell? ⟨a.block, a.off + 1, none⟩ = some (.string p.ty) ∧ w.cell? ⟨a.block, a.off + 2, none⟩ = some (.string p.da) ∧ w.cell? ⟨a.block, a.off + 3, none⟩ = some (.float .f64 p.va)
theorem evAt.below {w w' : World} {a : Addr} {p : Ev} {B : Nat} (h : evAt w a p) (hb : Below B w w') (ha : a.block < B) : evAt w' a p :=
  ⟨(hb.cell (p := a) ha).trans h.1, (hb.cell (p := ⟨a.block, a.off + 1, none⟩) ha).trans h.2.1, (hb.cell (p := ⟨a.block, a.off + 2, none⟩) ha).trans h.2.2.1, (hb.cell (p := ⟨a.block, a.off + 3, none⟩) ha).trans h.2.2.2⟩
/-- an event of a row -/
theorem SlR.ev {w : World} {B n k : Nat} {A : Option Addr} {ps : List Ev} (h : SlR w B 4 A n (evVs ps)) (hk : k < n) : ∃ ad p, A = some ad ∧ ad.block < B ∧ ps[k]? = some p ∧ evAt w (ad.add (k * 4)) p := by
  obtain ⟨ad, hA, hb, hc⟩ := h.cells (by omega)
  have hl : ps.length = n := by have := h.len; rw [evVs_length] at this; omega
  have hp : ps[k]? = some ps[k] := List.getElem?_eq_getElem (by omega)
  refine ⟨ad, ps[k], hA, hb, hp, ?_, ?_, ?_, ?_⟩
  · have := hc (k * 4 + 0) _ (evVs_get ps k 0 _ hp (by omega)); simpa [evC] using this
  · rw [add_nextV _ _ _ (by omega)]; exact hc (k * 4 + 1) _ (evVs_get ps k 1 _ hp (by omega))
  · rw [add_nextV _ _ _ (by omega)]; exact hc (k * 4 + 2) _ (evVs_get ps k 2 _ hp (by omega))
  · rw [add_nextV _ _ _ (by omega)]; exact hc (k * 4 + 3) _ (evVs_get ps k 3 _ hp (by omega))
end Go.Proofs.Ytnnnilpgnjndlaa

/- chapter 7: may a text be a name? -/
namespace Go.Proofs.Ytnnnilpgnjndlaa
open Go.RowKit
set_option maxHeartbeats 1000000
set_option linter.unusedVariables false

theorem take_next (s : ByteArray) (k : Nat) (h : k < s.size) : s.data.toList.take (k + 1) = s.data.toList.take k ++ [s[k]] := by
  rw [List.take_succ_eq_append_getElem (by simpa using h)]; rfl
theorem nameC_no {s : ByteArray} {k : Nat} (h : k < s.size) (hc : nameC s[k] = false) : nameB s = false := by
  unfold nameB
  have : s.data.toList.all nameC = false := by
    rw [List.all_eq_false]
    exact ⟨s[k], List.mem_of_getElem? (i := k) (by rw [List.getElem?_eq_getElem (by simpa using h)]; rfl), by rw [hc]; simp⟩
  rw [this, Bool.and_false]

theorem stream_any (s : ByteArray) (w : World) (hs : s.size ≤ 9223372036854775807) :
    Calls Try.prog 65 #[.string s] w fun e w' => e = .returned (.bool (nameB s)) ∧ w = w' := by
  by_cases h1 : s.size < 1
  · have hv : nameB s = false := by unfold nameB; rw [decide_eq_false (show ¬ 1 ≤ s.size by omega)]; rfl
    rw [hv]
    go_enter Try.func65, Try.ntmps65
    go_wp2
    go_ret
    exact ⟨rfl, rfl⟩
  · by_cases h2 : 60 < s.size
    · have hv : nameB s = false := by unfold nameB; rw [decide_eq_false (show ¬ s.size ≤ 60 by omega)]; simp
      rw [hv]
      have h1' : 1 ≤ s.size := by omega
      have h1d : decide ((s.size : Int) < 1) = false := decide_eq_false (by omega)
      go_enter Try.func65, Try.ntmps65
      go_wp2
      go_ret
      exact ⟨rfl, rfl⟩
    · have h1d : decide ((s.size : Int) < 1) = false := decide_eq_false (by omega)
      have h2d : decide ((60 : Int) < (s.size : Int)) = false := decide_eq_false (by omega)
      go_enter Try.func65, Try.ntmps65
      go_wp2
      go_loop [14] (fun i => ∃ m : Nat, m ≤ s.size ∧ i = .int .i64 m ∧ (s.data.toList.take m).all nameC = true) (fun i => s.size - (intOf i).toNat)
      case atStart => exact ⟨0, Nat.zero_le _, rfl, rfl⟩
      case round =>
        obtain ⟨m, hm, rfl, hall⟩ := hrel
        have Hall := Lib.hid hall; clear hall
        by_cases hlm : m < s.size
        · cases hc : nameC s[m] with
          | true =>
            have Hc := Lib.hid hc
            unfold nameC at hc
            simp only [Bool.not_eq_true', Bool.or_eq_false_iff, decide_eq_false_iff_not] at hc
            obtain ⟨⟨c1, c2⟩, c3⟩ := hc
            have d1 : decide ((s[m].toNat : Int) < 33) = false := decide_eq_false (by omega)
            have d2 : decide ((126 : Int) < (s[m].toNat : Int)) = false := decide_eq_false (by omega)
            have d3 : ((s[m].toNat : Int) == 64) = false := by rw [beq_eq_false_iff_ne]; omega
            clear c1 c2 c3
            go_wp2
            go_round
            case rel => exact ⟨m + 1, by omega, by go_num, by rw [take_next s m hlm, List.all_append, Hall.out, List.all_cons, Hc.out]; rfl⟩
            case measure => simp [intOf]; omega
          | false =>
            have hv := nameC_no hlm hc
            have Hv := Lib.hid hv
            clear hv
            unfold nameC at hc
            simp only [Bool.not_eq_false', Bool.or_eq_true] at hc
            simp only [decide_eq_true_eq] at hc
            by_cases c1 : s[m].toNat < 33
            · have d1 : decide ((s[m].toNat : Int) < 33) = true := decide_eq_true (by omega)
              clear hc c1
              go_wp2
              go_ret
              exact ⟨by rw [Hv.out]; rfl, rfl⟩
            · have d1 : decide ((s[m].toNat : Int) < 33) = false := decide_eq_false (by omega)
              by_cases c2 : 126 < s[m].toNat
              · have d2 : decide ((126 : Int) < (s[m].toNat : Int)) = true := decide_eq_true (by omega)
                clear hc c1 c2
                go_wp2
                go_ret
                exact ⟨by rw [Hv.out]; rfl, rfl⟩
              · have d2 : decide ((126 : Int) < (s[m].toNat : Int)) = false := decide_eq_false (by omega)
                have d3 : ((s[m].toNat : Int) == 64) = true := by rw [beq_iff_eq]; omega
                clear hc c1 c2
                go_wp2
                go_ret
                exact ⟨by rw [Hv.out]; rfl, rfl⟩
        · obtain rfl : m = s.size := by omega
          have hv : nameB s = true := by
            have := Hall.out
            rw [List.take_of_length_le (by rw [← size_list]; exact Nat.le_refl _)] at this
            unfold nameB
            rw [this, decide_eq_true (show 1 ≤ s.size by omega), decide_eq_true (show s.size ≤ 60 by omega)]; rfl
          have Hv := Lib.hid hv
          clear hv
          go_wp2
          go_ret
          exact ⟨by rw [Hv.out]; rfl, rfl⟩

theorem refStream_any (s : ByteArray) (w : World) (hs : s.size ≤ 9223372036854775807) :
    Calls Try.prog 74 #[.string s] w fun e w' => e = .returned (.bool (nameB s)) ∧ w = w' := by
  by_cases h1 : s.size < 1
  · have hv : nameB s = false := by unfold nameB; rw [decide_eq_false (show ¬ 1 ≤ s.size by omega)]; rfl
    rw [hv]
    go_enter Try.func74, Try.ntmps74
    go_wp2
    go_ret
    exact ⟨rfl, rfl⟩
  · by_cases h2 : 60 < s.size
    · have hv : nameB s = false := by unfold nameB; rw [decide_eq_false (show ¬ s.size ≤ 60 by omega)]; simp
      rw [hv]
      have h1' : 1 ≤ s.size := by omega
      have h1d : decide ((s.size : Int) < 1) = false := decide_eq_false (by omega)
      go_enter Try.func74, Try.ntmps74
      go_wp2
      go_ret
      exact ⟨rfl, rfl⟩
    · have h1d : decide ((s.size : Int) < 1) = false := decide_eq_false (by omega)
      have h2d : decide ((60 : Int) < (s.size : Int)) = false := decide_eq_false (by omega)
      go_enter Try.func74, Try.ntmps74
      go_wp2
      go_loop [3] (fun i => ∃ m : Nat, m ≤ s.size ∧ i = .int .i64 m ∧ (s.data.toList.take m).all nameC = true) (fun i => s.size - (intOf i).toNat)
      case atStart => exact ⟨0, Nat.zero_le _, rfl, rfl⟩
      case round =>
        obtain ⟨m, hm, rfl, hall⟩ := hrel
        have Hall := Lib.hid hall; clear hall
        by_cases hlm : m < s.size
        · cases hc : nameC s[m] with
          | true =>
            have Hc := Lib.hid hc
            unfold nameC at hc
            simp only [Bool.not_eq_true', Bool.or_eq_false_iff, decide_eq_false_iff_not] at hc
            obtain ⟨⟨c1, c2⟩, c3⟩ := hc
            have d1 : decide ((s[m].toNat : Int) < 33) = false := decide_eq_false (by omega)
            have d2 : decide ((126 : Int) < (s[m].toNat : Int)) = false := decide_eq_false (by omega)
            have d3 : ((s[m].toNat : Int) == 64) = false := by rw [beq_eq_false_iff_ne]; omega
            clear c1 c2 c3
            go_wp2
            go_round
            case rel => exact ⟨m + 1, by omega, by go_num, by rw [take_next s m hlm, List.all_append, Hall.out, List.all_cons, Hc.out]; rfl⟩
            case measure => simp [intOf]; omega
          | false =>
            have hv := nameC_no hlm hc
            have Hv := Lib.hid hv
            clear hv
            unfold nameC at hc
            simp only [Bool.not_eq_false', Bool.or_eq_true] at hc
            simp only [decide_eq_true_eq] at hc
            by_cases c1 : s[m].toNat < 33
            · have d1 : decide ((s[m].toNat : Int) < 33) = true := decide_eq_true (by omega)
              clear hc c1
              go_wp2
              go_ret
              exact ⟨by rw [Hv.out]; rfl, rfl⟩
            · have d1 : decide ((s[m].toNat : Int) < 33) = false := decide_eq_false (by omega)
              by_cases c2 : 126 < s[m].toNat
              · have d2 : decide ((126 : Int) < (s[m].toNat : Int)) = true := decide_eq_true (by omega)
                clear hc c1 c2
                go_wp2
                go_ret
                exact ⟨by rw [Hv.out]; rfl, rfl⟩
              · have d2 : decide ((126 : Int) < (s[m].toNat : Int)) = false := decide_eq_false (by omega)
                have d3 : ((s[m].toNat : Int) == 64) = true := by rw [beq_iff_eq]; omega
                clear hc c1 c2
                go_wp2
                go_ret
                exact ⟨by rw [Hv.out]; rfl, rfl⟩
        · obtain rfl : m = s.size := by omega
          have hv : nameB s = true := by
            have := Hall.out
            rw [List.take_of_length_le (by rw [← size_list]; exact Nat.le_refl _)] at this
            unfold nameB
            rw [this, decide_eq_true (show 1 ≤ s.size by omega), decide_eq_true (show s.size ≤ 60 by omega)]; rfl
          have Hv := Lib.hid hv
          clear hv
          go_wp2
          go_ret
          exact ⟨by rw [Hv.out]; rfl, rfl⟩

end Go.Proofs.Ytnnnilpgnjndlaa

/- chapter 7: may an event be? may events be appended together? -/
namespace Go.Proofs.Ytnnnilpgnjndlaa
open Go.RowKit
set_option maxHeartbeats 1000000
set_option maxRecDepth 100000
set_option linter.unusedVariables false
attribute [local go_sem] run_store_flt

theorem within_any (n : Int) (w : World) : Calls Try.prog 64 #[.int .i64 n] w fun e w' => e = .returned (.bool (withinB n)) ∧ w = w' := by
  by_cases h0 : n < 0
  · have hv : withinB n = false := decide_eq_false (by omega)
    rw [hv]
    have d0 : decide ((0 : Int) ≤ n) = false := decide_eq_false (by omega)
    clear h0
    go_enter Try.func64, Try.ntmps64
    go_wp2
    go_ret
    exact ⟨rfl, rfl⟩
  · have d0 : decide ((0 : Int) ≤ n) = true := decide_eq_true (by omega)
    by_cases h1 : n ≤ 1099511627776
    · have hv : withinB n = true := decide_eq_true (by omega)
      rw [hv]
      have d1 : decide (n ≤ 1099511627776) = true := decide_eq_true h1
      go_enter Try.func64, Try.ntmps64
      go_wp2
      go_ret
      exact ⟨rfl, rfl⟩
    · have hv : withinB n = false := decide_eq_false (by omega)
      rw [hv]
      have d1 : decide (n ≤ 1099511627776) = false := decide_eq_false h1
      go_enter Try.func64, Try.ntmps64
      go_wp2
      go_ret
      exact ⟨rfl, rfl⟩

theorem type_any (s : ByteArray) (w : World) (hs : s.size ≤ 9223372036854775807) : Calls Try.prog 90 #[.string s] w fun e w' => e = .returned (.bool (nameB s)) ∧ w = w' := by
  go_enter Try.func90, Try.ntmps90
  go_wp2_with fail
  refine (stream_any s _ hs).mono ?_
  rintro e w1 ⟨rfl, rfl⟩
  go_wp2_with fail
  go_ret
  exact ⟨rfl, rfl⟩

theorem valid_any (id : Int) (ty da : ByteArray) (va : Nat) (w : World) (ht : ty.size ≤ 9223372036854775807) (hd : da.size ≤ 9223372036854775807) :
    Calls Try.prog 86 #[.agg #[.int .i64 id, .string ty, .string da, .float .f64 va]] w fun e w' => e = .returned (.bool (validE ⟨id, ty, da, va⟩)) ∧ Below w.heap.size w w' := by
  have hb := (Below.refl w.heap.size w).alloc (Nat.le_refl _) (.cells #[.int .i64 id, .string ty, .string da, .float .f64 va] 57)
  have Hb := Lib.hid hb; clear hb
  have hn := fun w => type_any ty w ht
  have hv : validE ⟨id, ty, da, va⟩ = (decide (1 ≤ id) && nameB ty && decide (da.size ≤ 200)) := rfl
  rw [hv]
  clear hv
  by_cases h0 : 1 ≤ id
  · rw [decide_eq_true h0]
    have d0 : decide (1 ≤ id) = true := decide_eq_true h0
    cases hq : nameB ty with
    | false =>
      rw [hq] at hn
      have Hn := Lib.hid hn; clear hn hq
      go_enter Try.func86, Try.ntmps86
      go_wp2_with (go_at_call 90; refine (Hn.out _).mono ?_; rintro e w1 ⟨rfl, rfl⟩)
      go_ret
      exact ⟨rfl, Hb.out⟩
    | true =>
      rw [hq] at hn
      have Hn := Lib.hid hn; clear hn hq
      by_cases h1 : da.size ≤ 200
      · rw [decide_eq_true h1]
        have d1 : decide ((da.size : Int) ≤ 200) = true := decide_eq_true (by omega)
        go_enter Try.func86, Try.ntmps86
        go_wp2_with (go_at_call 90; refine (Hn.out _).mono ?_; rintro e w1 ⟨rfl, rfl⟩)
        go_ret
        exact ⟨rfl, Hb.out⟩
      · rw [decide_eq_false h1]
        have d1 : decide ((da.size : Int) ≤ 200) = false := decide_eq_false (by omega)
        go_enter Try.func86, Try.ntmps86
        go_wp2_with (go_at_call 90; refine (Hn.out _).mono ?_; rintro e w1 ⟨rfl, rfl⟩)
        go_ret
        exact ⟨rfl, Hb.out⟩
  · rw [decide_eq_false h0]
    have d0 : decide (1 ≤ id) = false := decide_eq_false h0
    clear hn
    go_enter Try.func86, Try.ntmps86
    go_wp2_with fail
    go_ret
    exact ⟨rfl, Hb.out⟩

theorem events_any (A : Option Addr) (n cap B : Nat) (l : List Ev) (w : World) (hr : SlR w B 4 A n (evVs l)) (hB : B ≤ w.heap.size) (hn : n ≤ 1000000000) (hf : ∀ e ∈ l, e.fits) :
    Calls Try.prog 66 #[.slice A n cap] w fun e w' => e = .returned (.int .i64 (evsErr l)) ∧ Below w.heap.size w w' := by
  have hl : l.length = n := by have := hr.len; rw [evVs_length] at this; omega
  by_cases h0 : n = 0
  · subst h0
    have hv : evsErr l = 1 := by unfold evsErr; rw [if_pos hl]
    rw [hv]
    clear hr
    go_enter Try.func66, Try.ntmps66
    go_wp2_with fail
    go_ret
    exact ⟨rfl, Below.refl _ _⟩
  · by_cases h1 : 8 < n
    · have hv : evsErr l = 2 := by unfold evsErr; rw [if_neg (by omega), if_pos (by omega)]
      rw [hv]
      clear hr
      have d0 : ((n : Int) == 0) = false := by rw [beq_eq_false_iff_ne]; omega
      have d1 : (8 : Int) < (n : Int) := by omega
      go_enter Try.func66, Try.ntmps66
      go_wp2_with fail
      go_ret
      exact ⟨rfl, Below.refl _ _⟩
    · have hv : evsErr l = if l.all validE = true then 0 else 1 := by unfold evsErr; rw [if_neg (by omega), if_neg (by omega)]
      obtain ⟨V, hV⟩ : ∃ V, evsErr l = V := ⟨_, rfl⟩
      rw [hV]
      rw [hV] at hv
      have Hv := Lib.hid hv
      clear hv hV
      have d0 : ((n : Int) == 0) = false := by rw [beq_eq_false_iff_ne]; omega
      have d1 : decide ((8 : Int) < (n : Int)) = false := decide_eq_false (by omega)
      have Hr := Lib.hid hr; have Hf := Lib.hid hf; have Hl := Lib.hid hl
      clear hr hf hl
      go_enter Try.func66, Try.ntmps66
      go_wp2_with fail
      go_loopw [15] (fun i wr => ∃ m : Nat, m ≤ n ∧ i = .int .i64 m ∧ (l.take m).all validE = true ∧ Below w.heap.size w wr) (fun i _ => n - (intOf i).toNat)
      case atStart => exact ⟨0, Nat.zero_le _, rfl, rfl, Below.refl _ _⟩
      case round =>
        obtain ⟨m, hm, rfl, hall, hb⟩ := hrel
        have Hall := Lib.hid hall; have Hb := Lib.hid hb
        clear hall hb
        by_cases hlm : m < n
        · obtain ⟨ad, ⟨id, ty, da, va⟩, rfl, hadB, hpk, hat⟩ := Hr.out.ev hlm
          have hat2 := hat.below Hb.out (by rw [add_block]; exact Nat.lt_of_lt_of_le hadB hB)
          have hfe := Hf.out _ (List.mem_of_getElem? hpk)
          obtain ⟨c0, c1, c2, c3⟩ := hat2
          have hsz := Hb.out.size
          have hbl : (ad.add (m * 4)).block < wr.heap.size := by rw [add_block]; omega
          have hval := fun w => valid_any id ty da va w hfe.t1 hfe.d1
          have hi1 : (m : Int) < n := by omega
          cases hvv : validE ⟨id, ty, da, va⟩ with
          | true =>
            rw [hvv] at hval
            have Hval := Lib.hid hval; have Hvv := Lib.hid hvv; have Hpk := Lib.hid hpk
            clear hval hvv hpk hfe hat
            go_wp2_with (go_at_call 86; refine (Hval.out _).mono ?_; rintro e w2 ⟨rfl, hb2⟩)
            go_roundw
            case rel => exact ⟨m + 1, by omega, by go_num, by
              have hk := (List.getElem?_eq_some_iff.mp Hpk.out).1
              rw [List.take_succ_eq_append_getElem hk, List.all_append, Hall.out, (List.getElem?_eq_some_iff.mp Hpk.out).2]
              simp [Hvv.out], (Hb.out.alloc Hb.out.size _).trans (hb2.mono (by simp; omega))⟩
            case measure => simp [intOf]; omega
          | false =>
            rw [hvv] at hval
            have hno : ¬ (l.all validE = true) := fun h => by
              rw [List.all_eq_true] at h
              have := h _ (List.mem_of_getElem? hpk)
              rw [hvv] at this; cases this
            obtain rfl : V = 1 := by rw [Hv.out, if_neg hno]
            have Hval := Lib.hid hval
            clear hval hvv hpk hfe hat hno
            go_wp2_with (go_at_call 86; refine (Hval.out _).mono ?_; rintro e w2 ⟨rfl, hb2⟩)
            go_ret
            exact ⟨rfl, (Hb.out.alloc Hb.out.size _).trans (hb2.mono (by simp; omega))⟩
        · obtain rfl : m = n := by omega
          have hyes : l.all validE = true := by have := Hall.out; rwa [List.take_of_length_le (by rw [Hl.out]; exact Nat.le_refl _)] at this
          obtain rfl : V = 0 := by rw [Hv.out, if_pos hyes]
          clear hyes
          go_wp2_with fail
          go_ret
          exact ⟨rfl, Hb.out⟩
end Go.Proofs.Ytnnnilpgnjndlaa

/- chapter 7: metadata, what is expected, spare parts. -/
namespace Go.Proofs.Ytnnnilpgnjndlaa
open Go.RowKit
set_option maxHeartbeats 2000000
set_option maxRecDepth 100000
set_option linter.unusedVariables false

theorem meta_any (a b d : Int) (w : World) : Calls Try.prog 68 #[.agg #[.int .i64 a, .int .i64 b, .int .i64 d]] w fun e w' => e = .returned (.bool (metaB a b d)) ∧ Below w.heap.size w w' := by
  have hb := (Below.refl w.heap.size w).alloc (Nat.le_refl _) (.cells #[.int .i64 a, .int .i64 b, .int .i64 d] 24)
  have Hb := Lib.hid hb; clear hb
  have hv : metaB a b d = (withinB a && withinB b && withinB d) := rfl
  rw [hv]
  clear hv
  have h0 := fun w => within_any a w
  have h1 := fun w => within_any b w
  have h2 := fun w => within_any d w
  cases q0 : withinB a with
  | false =>
    rw [q0] at h0
    have H0 := Lib.hid h0; clear h0 h1 h2
    go_enter Try.func68, Try.ntmps68
    go_wp2_with fail
    refine (H0.out _).mono ?_
    rintro e w1 ⟨rfl, rfl⟩
    go_wp2_with fail
    go_ret
    exact ⟨rfl, Hb.out⟩
  | true =>
    rw [q0] at h0
    have H0 := Lib.hid h0; clear h0
    cases q1 : withinB b with
    | false =>
      rw [q1] at h1
      have H1 := Lib.hid h1; clear h1 h2
      go_enter Try.func68, Try.ntmps68
      go_wp2_with fail
      refine (H0.out _).mono ?_
      rintro e w1 ⟨rfl, rfl⟩
      go_wp2_with fail
      refine (H1.out _).mono ?_
      rintro e w1 ⟨rfl, rfl⟩
      go_wp2_with fail
      go_ret
      exact ⟨rfl, Hb.out⟩
    | true =>
      rw [q1] at h1
      have H1 := Lib.hid h1; clear h1
      cases q2 : withinB d with
      | false =>
        rw [q2] at h2
        have H2 := Lib.hid h2; clear h2
        go_enter Try.func68, Try.ntmps68
        go_wp2_with fail
        refine (H0.out _).mono ?_
        rintro e w1 ⟨rfl, rfl⟩
        go_wp2_with fail
        refine (H1.out _).mono ?_
        rintro e w1 ⟨rfl, rfl⟩
        go_wp2_with fail
        refine (H2.out _).mono ?_
        rintro e w1 ⟨rfl, rfl⟩
        go_wp2_with fail
        go_ret
        exact ⟨rfl, Hb.out⟩
      | true =>
        rw [q2] at h2
        have H2 := Lib.hid h2; clear h2
        go_enter Try.func68, Try.ntmps68
        go_wp2_with fail
        refine (H0.out _).mono ?_
        rintro e w1 ⟨rfl, rfl⟩
        go_wp2_with fail
        refine (H1.out _).mono ?_
        rintro e w1 ⟨rfl, rfl⟩
        go_wp2_with fail
        refine (H2.out _).mono ?_
        rintro e w1 ⟨rfl, rfl⟩
        go_wp2_with fail
        go_ret
        exact ⟨rfl, Hb.out⟩

theorem expects_any (n : Int) (w : World) : Calls Try.prog 67 #[.int .i64 n] w fun e w' => e = .returned (.bool (expectsB n)) ∧ w = w' := by
  have hw := fun w => within_any n w
  have hv : expectsB n = (withinB n || decide (n = -1) || decide (n = -2) || decide (n = -4)) := rfl
  cases q : withinB n with
  | true =>
    rw [q] at hw hv
    rw [show expectsB n = true from by rw [hv]; simp]
    have Hw := Lib.hid hw; clear hw hv q
    go_enter Try.func67, Try.ntmps67
    go_wp2_with fail
    refine (Hw.out _).mono ?_
    rintro e w1 ⟨rfl, rfl⟩
    go_wp2_with fail
    go_ret
    exact ⟨rfl, rfl⟩
  | false =>
    rw [q] at hw hv
    have Hw := Lib.hid hw; clear hw q
    by_cases h1 : n = -1
    · subst h1
      rw [show expectsB (-1) = true from by rw [hv]; rfl]
      clear hv
      go_enter Try.func67, Try.ntmps67
      go_wp2_with fail
      refine (Hw.out _).mono ?_
      rintro e w1 ⟨rfl, rfl⟩
      go_wp2_with fail
      go_ret
      exact ⟨rfl, rfl⟩
    · have d1 : (n == -1) = false := by rw [beq_eq_false_iff_ne]; exact h1
      by_cases h2 : n = -2
      · subst h2
        rw [show expectsB (-2) = true from by rw [hv]; rfl]
        clear hv h1
        go_enter Try.func67, Try.ntmps67
        go_wp2_with fail
        refine (Hw.out _).mono ?_
        rintro e w1 ⟨rfl, rfl⟩
        go_wp2_with fail
        go_ret
        exact ⟨rfl, rfl⟩
      · have d2 : (n == -2) = false := by rw [beq_eq_false_iff_ne]; exact h2
        by_cases h3 : n = -4
        · subst h3
          rw [show expectsB (-4) = true from by rw [hv]; rfl]
          clear hv h1 h2
          go_enter Try.func67, Try.ntmps67
          go_wp2_with fail
          refine (Hw.out _).mono ?_
          rintro e w1 ⟨rfl, rfl⟩
          go_wp2_with fail
          go_ret
          exact ⟨rfl, rfl⟩
        · have d3 : (n == -4) = false := by rw [beq_eq_false_iff_ne]; exact h3
          rw [show expectsB n = false from by rw [hv]; simp [h1, h2, h3]]
          clear hv h1 h2 h3
          go_enter Try.func67, Try.ntmps67
          go_wp2_with fail
          refine (Hw.out _).mono ?_
          rintro e w1 ⟨rfl, rfl⟩
          go_wp2_with fail
          go_ret
          exact ⟨rfl, rfl⟩

theorem str_size0 {s : ByteArray} (h : s.size = 0) : s = ⟨#[]⟩ := str_mk (l := []) (List.eq_nil_of_length_eq_zero (by rw [← size_list]; exact h))
theorem str_ne0 {s : ByteArray} (h : s.size ≠ 0) : decide (s.toList = []) = false := by
  rw [decide_eq_false_iff_not, ByteArray.toList_eq]
  intro e
  exact h (by rw [size_list, e]; rfl)

theorem spare_any (k t : Int) (s : ByteArray) (x : Int) (A : Option Addr) (n cap : Nat) (es : List Ev) (m0 m1 m2 : Int) (w : World) (hl : es.length = n) :
    Calls Try.prog 69 #[.agg #[.int .i64 k, .int .i64 t, .string s, .int .i64 x, .slice A n cap, .int .i64 m0, .int .i64 m1, .int .i64 m2]] w fun e w' => e = .returned (.bool (spareB ⟨k, t, s, x, es, m0, m1, m2⟩)) ∧ Below w.heap.size w w' := by
  have hb := (Below.refl w.heap.size w).alloc (Nat.le_refl _) (.cells #[.int .i64 k, .int .i64 t, .string s, .int .i64 x, .slice A n cap, .int .i64 m0, .int .i64 m1, .int .i64 m2] 26)
  have Hb := Lib.hid hb; clear hb
  by_cases k1 : k = 1
  · subst k1
    by_cases g0 : m0 = 0
    · subst g0
      by_cases g1 : m1 = 0
      · subst g1
        by_cases g2 : m2 = 0
        · subst g2
          have hv : spareB ⟨1, t, s, x, es, 0, 0, 0⟩ = false := by unfold spareB; (simp) <;> rfl
          rw [hv]
          clear hv
          go_enter Try.func69, Try.ntmps69
          go_wp2_with fail
          go_ret
          exact ⟨rfl, Hb.out⟩
        · have hs : spareB ⟨1, t, s, x, es, 0, 0, m2⟩ = true := by unfold spareB; simp [g2]
          rw [hs]
          clear hs
          go_enter Try.func69, Try.ntmps69
          go_wp2_with fail
          go_ret
          exact ⟨rfl, Hb.out⟩
      · have hs : spareB ⟨1, t, s, x, es, 0, m1, m2⟩ = true := by unfold spareB; simp [g1]
        rw [hs]
        clear hs
        go_enter Try.func69, Try.ntmps69
        go_wp2_with fail
        go_ret
        exact ⟨rfl, Hb.out⟩
    · have hs : spareB ⟨1, t, s, x, es, m0, m1, m2⟩ = true := by unfold spareB; simp [g0]
      rw [hs]
      clear hs
      go_enter Try.func69, Try.ntmps69
      go_wp2_with fail
      go_ret
      exact ⟨rfl, Hb.out⟩
  · have e1 : (k == 1) = false := by rw [beq_eq_false_iff_ne]; exact k1
    have f1 : (k != 1) = true := by rw [bne_iff_ne]; exact k1
    by_cases k2 : k = 2
    · subst k2
      by_cases hx : x = 0
      · subst hx
        by_cases hn : 0 < n
        · have dn : decide ((0 : Int) < (n : Int)) = true := decide_eq_true (by omega)
          have hn' : 0 < es.length := by omega
          have hs : spareB ⟨2, t, s, 0, es, m0, m1, m2⟩ = true := by unfold spareB; simp [hn']
          rw [hs]
          clear hs hn'
          go_enter Try.func69, Try.ntmps69
          go_wp2_with fail
          go_ret
          exact ⟨rfl, Hb.out⟩
        · have dn : decide ((0 : Int) < (n : Int)) = false := decide_eq_false (by omega)
          have hn' : es.length = 0 := by omega
          have hv : spareB ⟨2, t, s, 0, es, m0, m1, m2⟩ = false := by unfold spareB; (simp [hn']) <;> rfl
          rw [hv]
          clear hv hn'
          go_enter Try.func69, Try.ntmps69
          go_wp2_with fail
          go_ret
          exact ⟨rfl, Hb.out⟩
      · have dx : (x != 0) = true := by rw [bne_iff_ne]; exact hx
        have hs : spareB ⟨2, t, s, x, es, m0, m1, m2⟩ = true := by unfold spareB; simp [hx]
        rw [hs]
        clear hs
        go_enter Try.func69, Try.ntmps69
        go_wp2_with fail
        go_ret
        exact ⟨rfl, Hb.out⟩
    · have e2 : (k == 2) = false := by rw [beq_eq_false_iff_ne]; exact k2
      have f2 : (k != 2) = true := by rw [bne_iff_ne]; exact k2
      by_cases k3 : k = 3
      · subst k3
        by_cases hn : 0 < n
        · have dn : decide ((0 : Int) < (n : Int)) = true := decide_eq_true (by omega)
          have hn' : 0 < es.length := by omega
          have hs : spareB ⟨3, t, s, x, es, m0, m1, m2⟩ = true := by unfold spareB; simp [hn']
          rw [hs]
          clear hs hn'
          go_enter Try.func69, Try.ntmps69
          go_wp2_with fail
          go_ret
          exact ⟨rfl, Hb.out⟩
        · have dn : decide ((0 : Int) < (n : Int)) = false := decide_eq_false (by omega)
          have hn' : es.length = 0 := by omega
          by_cases g0 : m0 = 0
          · subst g0
            by_cases g1 : m1 = 0
            · subst g1
              by_cases g2 : m2 = 0
              · subst g2
                have hv : spareB ⟨3, t, s, x, es, 0, 0, 0⟩ = false := by unfold spareB; (simp [hn']) <;> rfl
                rw [hv]
                clear hv hn'
                go_enter Try.func69, Try.ntmps69
                go_wp2_with fail
                go_ret
                exact ⟨rfl, Hb.out⟩
              · have hs : spareB ⟨3, t, s, x, es, 0, 0, m2⟩ = true := by unfold spareB; simp [g2]
                rw [hs]
                clear hs
                go_enter Try.func69, Try.ntmps69
                go_wp2_with fail
                go_ret
                exact ⟨rfl, Hb.out⟩
            · have hs : spareB ⟨3, t, s, x, es, 0, m1, m2⟩ = true := by unfold spareB; simp [g1]
              rw [hs]
              clear hs
              go_enter Try.func69, Try.ntmps69
              go_wp2_with fail
              go_ret
              exact ⟨rfl, Hb.out⟩
          · have hs : spareB ⟨3, t, s, x, es, m0, m1, m2⟩ = true := by unfold spareB; simp [g0]
            rw [hs]
            clear hs
            go_enter Try.func69, Try.ntmps69
            go_wp2_with fail
            go_ret
            exact ⟨rfl, Hb.out⟩
      · have e3 : (k == 3) = false := by rw [beq_eq_false_iff_ne]; exact k3
        have kd : decide (k = 1) = false ∧ decide (k = 2) = false ∧ decide (k = 3) = false := ⟨decide_eq_false k1, decide_eq_false k2, decide_eq_false k3⟩
        clear k1 k2 k3
        by_cases hz : s.size = 0
        · obtain rfl := str_size0 hz
          clear hz
          by_cases hx : x = 0
          · subst hx
            by_cases hn : 0 < n
            · have dn : decide ((0 : Int) < (n : Int)) = true := decide_eq_true (by omega)
              have hn' : 0 < es.length := by omega
              have hs : spareB ⟨k, t, ⟨#[]⟩, 0, es, m0, m1, m2⟩ = true := by unfold spareB; simp [hn', kd]
              rw [hs]
              clear hs hn'
              go_enter Try.func69, Try.ntmps69
              go_wp2_with fail
              go_ret
              exact ⟨rfl, Hb.out⟩
            · have dn : decide ((0 : Int) < (n : Int)) = false := decide_eq_false (by omega)
              have hn' : es.length = 0 := by omega
              by_cases g0 : m0 = 0
              · subst g0
                by_cases g1 : m1 = 0
                · subst g1
                  by_cases g2 : m2 = 0
                  · subst g2
                    have hv : spareB ⟨k, t, ⟨#[]⟩, 0, es, 0, 0, 0⟩ = false := by unfold spareB; (simp [kd, hn']) <;> rfl
                    rw [hv]
                    clear hv kd hn'
                    go_enter Try.func69, Try.ntmps69
                    go_wp2_with fail
                    go_ret
                    exact ⟨rfl, Hb.out⟩
                  · have hs : spareB ⟨k, t, ⟨#[]⟩, 0, es, 0, 0, m2⟩ = true := by unfold spareB; simp [g2, kd]
                    rw [hs]
                    clear hs
                    go_enter Try.func69, Try.ntmps69
                    go_wp2_with fail
                    go_ret
                    exact ⟨rfl, Hb.out⟩
                · have hs : spareB ⟨k, t, ⟨#[]⟩, 0, es, 0, m1, m2⟩ = true := by unfold spareB; simp [g1, kd]
                  rw [hs]
                  clear hs
                  go_enter Try.func69, Try.ntmps69
                  go_wp2_with fail
                  go_ret
                  exact ⟨rfl, Hb.out⟩
              · have hs : spareB ⟨k, t, ⟨#[]⟩, 0, es, m0, m1, m2⟩ = true := by unfold spareB; simp [g0, kd]
                rw [hs]
                clear hs
                go_enter Try.func69, Try.ntmps69
                go_wp2_with fail
                go_ret
                exact ⟨rfl, Hb.out⟩
          · have dx : (x != 0) = true := by rw [bne_iff_ne]; exact hx
            have hs : spareB ⟨k, t, ⟨#[]⟩, x, es, m0, m1, m2⟩ = true := by unfold spareB; simp [hx, kd]
            rw [hs]
            clear hs
            go_enter Try.func69, Try.ntmps69
            go_wp2_with fail
            go_ret
            exact ⟨rfl, Hb.out⟩
        · have dz := str_ne0 hz; have dz2 : ¬ (s.toList = []) := of_decide_eq_false dz
          have hs : spareB ⟨k, t, s, x, es, m0, m1, m2⟩ = true := by unfold spareB; simp [hz, kd]
          rw [hs]
          clear hs hz
          go_enter Try.func69, Try.ntmps69
          go_wp2_with fail
          go_ret
          exact ⟨rfl, Hb.out⟩
end Go.Proofs.Ytnnnilpgnjndlaa
