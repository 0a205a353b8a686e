/- chapter 7: events and commands, plainly; their bytes, and what bytes say. -/
import Derived.Test.YtfpalamoaflilaaInG
import Derived.Test.YtfpalamoaflilaaNum64Law
namespace Go.Proofs.Ytfpalamoaflilaa
open Go.RowKit
set_option maxHeartbeats 1000000
set_option linter.unusedVariables false

/-- a byte that a name may have -/
def nameC (c : UInt8) : Bool := !(decide (c.toNat < 33) || decide (126 < c.toNat) || decide (c.toNat = 64))
def nameB (s : ByteArray) : Bool := decide (1 ≤ s.size) && decide (s.size ≤ 60) && s.data.toList.all nameC
def withinB (n : Int) : Bool := decide (0 ≤ n ∧ n ≤ 1099511627776)
def expectsB (n : Int) : Bool := withinB n || decide (n = -1) || decide (n = -2) || decide (n = -4)

/-- is a number none? (the bits of a float64) -/
def nanB (v : Nat) : Bool := FloatKind.f64.format.order v v != some .eq
/-- a number's bits; of all that are none the one -/
def canB (v : Nat) : Nat := if nanB v = true then 9221120237041090560 else v
theorem nanB_nan : nanB 9221120237041090560 = true := by decide
theorem canB_canB (v : Nat) : canB (canB v) = canB v := by
  unfold canB
  split
  · rw [if_pos nanB_nan]
  · rfl
theorem canB_lt {v : Nat} (h : v < 18446744073709551616) : canB v < 18446744073709551616 := by unfold canB; split <;> omega

structure Ev where
  id : Int
  ty : ByteArray
  da : ByteArray
  va : Nat
def Ev.none : Ev := ⟨0, ByteArray.empty, ByteArray.empty, 0⟩
def Ev.can (e : Ev) : Ev := ⟨e.id, e.ty, e.da, canB e.va⟩
/-- an event's numbers are numbers of their types -/
structure Ev.fits (e : Ev) : Prop where
  i0 : -9223372036854775808 ≤ e.id
  i1 : e.id ≤ 9223372036854775807
  t1 : e.ty.size ≤ 9223372036854775807
  d1 : e.da.size ≤ 9223372036854775807
  v1 : e.va < 18446744073709551616
def validE (e : Ev) : Bool := decide (1 ≤ e.id) && nameB e.ty && decide (e.da.size ≤ 200)
def sameE (a b : Ev) : Bool := decide (a.id = b.id) && decide (a.ty = b.ty) && decide (a.da = b.da) && decide (canB a.va = canB b.va)
structure Cmd where
  k : Int
  t : Int
  s : ByteArray
  x : Int
  es : List Ev
  m0 : Int
  m1 : Int
  m2 : Int
def Cmd.none : Cmd := ⟨0, 0, ByteArray.empty, 0, [], 0, 0, 0⟩
def Cmd.can (c : Cmd) : Cmd := ⟨c.k, c.t, c.s, c.x, c.es.map Ev.can, c.m0, c.m1, c.m2⟩
structure Cmd.fits (c : Cmd) : Prop where
  k0 : -9223372036854775808 ≤ c.k
  k1 : c.k ≤ 9223372036854775807
  t0 : -9223372036854775808 ≤ c.t
  t1 : c.t ≤ 9223372036854775807
  x0 : -9223372036854775808 ≤ c.x
  x1 : c.x ≤ 9223372036854775807
  a0 : -9223372036854775808 ≤ c.m0
  a1 : c.m0 ≤ 9223372036854775807
  b0 : -9223372036854775808 ≤ c.m1
  b1 : c.m1 ≤ 9223372036854775807
  d0 : -9223372036854775808 ≤ c.m2
  d1 : c.m2 ≤ 9223372036854775807
  s1 : c.s.size ≤ 9223372036854775807
  es : ∀ e ∈ c.es, e.fits
/-- why can't events be appended together? -/
def evsErr (l : List Ev) : Int := if l.length = 0 then 1 else if 8 < l.length then 2 else if l.all validE = true then 0 else 1
def metaB (a b d : Int) : Bool := withinB a && withinB b && withinB d
/-- has it parts that its kind does not have? -/
def spareB (c : Cmd) : Bool :=
  (!(decide (c.k = 1) || decide (c.k = 2) || decide (c.k = 3)) && !decide (c.s.size = 0)) || (!(decide (c.k = 1) || decide (c.k = 3)) && !decide (c.x = 0)) ||
    (!decide (c.k = 1) && decide (0 < c.es.length)) || (!decide (c.k = 2) && !(decide (c.m0 = 0) && decide (c.m1 = 0) && decide (c.m2 = 0)))
def checkC (c : Cmd) : Int :=
  if c.k < 1 ∨ 5 < c.k ∨ withinB c.t = false then 1
  else if c.k ≤ 3 ∧ nameB c.s = false then 1
  else if c.k = 1 ∧ evsErr c.es ≠ 0 then evsErr c.es
  else if ((c.k = 1 ∨ c.k = 3) ∧ expectsB c.x = false) ∨ (c.k = 2 ∧ metaB c.m0 c.m1 c.m2 = false) ∨ spareB c = true then 1 else 0

/-! ### bytes -/
def evL (e : Ev) : List UInt8 := be64 e.id ++ (textL e.ty.data.toList ++ (textL e.da.data.toList ++ beBytes 8 (canB e.va)))
def evsL (l : List Ev) : List UInt8 := (l.map evL).flatten
def headC (c : Cmd) : List UInt8 := beBytes 1 c.k.toNat ++ (be64 c.t ++ (textL c.s.data.toList ++ (be64 c.x ++ beBytes 1 c.es.length)))
def metaL (c : Cmd) : List UInt8 := be64 c.m0 ++ (be64 c.m1 ++ be64 c.m2)
def cmdL (c : Cmd) : List UInt8 := headC c ++ (evsL c.es ++ metaL c)
def putC (c : Cmd) : List UInt8 × Int := if checkC c = 0 then (cmdL c, 0) else ([], checkC c)
theorem evsL_cons (e : Ev) (l : List Ev) : evsL (e :: l) = evL e ++ evsL l := by simp [evsL]
theorem evsL_snoc (e : Ev) (l : List Ev) : evsL (l ++ [e]) = evsL l ++ evL e := by simp [evsL]
theorem evsL_take (l : List Ev) (k : Nat) (e : Ev) (h : l[k]? = some e) : evsL (l.take (k + 1)) = evsL (l.take k) ++ evL e := by
  have hk := (List.getElem?_eq_some_iff.mp h).1
  rw [show l.take (k + 1) = l.take k ++ [e] from by rw [List.take_succ_eq_append_getElem hk]; congr 2; exact (List.getElem?_eq_some_iff.mp h).2, evsL_snoc]
theorem evL_length (e : Ev) : (evL e).length = e.ty.size + e.da.size + 24 := by
  unfold evL; simp only [List.length_append, be64_length, beBytes_length, textL_length, ← size_list]; omega

/-! ### what is read -/
/-- an event, what is left, the error -/
def rdEv (bs : List UInt8) (x : Int) : Ev × List UInt8 × Int :=
  let a0 := inTake 8 bs x
  let a1 := inText 60 a0.2.1 a0.2.2
  let a2 := inText 200 a1.2.1 a1.2.2
  let a3 := inTake 8 a2.2.1 a2.2.2
  (⟨i64L a0.1, ⟨a1.1.toArray⟩, ⟨a2.1.toArray⟩, canB (beVal a3.1)⟩, a3.2.1, a3.2.2)
def rdEvs : Nat → List UInt8 → Int → List Ev × List UInt8 × Int
  | 0, bs, x => ([], bs, x)
  | n + 1, bs, x => if x = 0 then ((rdEv bs 0).1 :: (rdEvs n (rdEv bs 0).2.1 (rdEv bs 0).2.2).1, (rdEvs n (rdEv bs 0).2.1 (rdEv bs 0).2.2).2) else ([], bs, x)
theorem rdEvs_step (n : Nat) (bs : List UInt8) : rdEvs (n + 1) bs 0 = ((rdEv bs 0).1 :: (rdEvs n (rdEv bs 0).2.1 (rdEv bs 0).2.2).1, (rdEvs n (rdEv bs 0).2.1 (rdEv bs 0).2.2).2) := by
  rw [rdEvs, if_pos rfl]
theorem rdEvs_stop (n : Nat) (bs : List UInt8) (x : Int) (h : x ≠ 0) : rdEvs n bs x = ([], bs, x) := by
  cases n with
  | zero => rfl
  | succ n => rw [rdEvs, if_neg h]
theorem rdEvs_few : ∀ (n : Nat) (bs : List UInt8) (x : Int), (rdEvs n bs x).1.length ≤ n
  | 0, bs, x => by simp [rdEvs]
  | n + 1, bs, x => by
    rw [rdEvs]
    split
    · have := rdEvs_few n (rdEv bs 0).2.1 (rdEv bs 0).2.2
      simp only [List.length_cons]
      omega
    · simp
/-- a command, what is left, the error -/
def readC (bs : List UInt8) : Cmd × List UInt8 × Int :=
  let a0 := inTake 1 bs 0
  let a1 := inTake 8 a0.2.1 a0.2.2
  let a2 := inText 60 a1.2.1 a1.2.2
  let a3 := inTake 8 a2.2.1 a2.2.2
  let a4 := inTake 1 a3.2.1 a3.2.2
  let q := rdEvs (beVal a4.1) a4.2.1 a4.2.2
  let b0 := inTake 8 q.2.1 q.2.2
  let b1 := inTake 8 b0.2.1 b0.2.2
  let b2 := inTake 8 b1.2.1 b1.2.2
  (⟨(beVal a0.1 : Nat), i64L a1.1, ⟨a2.1.toArray⟩, i64L a3.1, q.1, i64L b0.1, i64L b1.1, i64L b2.1⟩, b2.2.1, b2.2.2)
def getC (b : List UInt8) : Cmd × Int :=
  if endL (readC b).2.1 (readC b).2.2 ≠ 0 then (.none, endL (readC b).2.1 (readC b).2.2)
  else if (putC (readC b).1).2 ≠ 0 ∨ (putC (readC b).1).1 ≠ b then (.none, 6)
  else ((readC b).1, 0)

theorem inTake_be2 (k n : Nat) (b : List UInt8) : inTake k (beBytes k n ++ b) 0 = (beBytes k n, b, 0) := inTake_app _ _ k (beBytes_length _ _)
theorem inTake_be64 (v : Int) (b : List UInt8) : inTake 8 (be64 v ++ b) 0 = (be64 v, b, 0) := inTake_app _ _ 8 (be64_length v)
theorem validE_size {e : Ev} (h : validE e = true) : e.ty.size ≤ 60 ∧ e.da.size ≤ 200 := by
  unfold validE nameB at h
  simp only [Bool.and_eq_true, decide_eq_true_eq] at h
  omega
theorem rdEv_app (e : Ev) (b : List UInt8) (hv : validE e = true) (hf : e.fits) : rdEv (evL e ++ b) 0 = (e.can, b, 0) := by
  obtain ⟨h1, h2⟩ := validE_size hv
  have e0 : inTake 8 (evL e ++ b) 0 = (be64 e.id, textL e.ty.data.toList ++ (textL e.da.data.toList ++ (beBytes 8 (canB e.va) ++ b)), 0) := by
    unfold evL; simp only [List.append_assoc]; exact inTake_be64 _ _
  unfold rdEv
  rw [e0]; dsimp only
  rw [inText_app _ _ 60 (by rw [← size_list]; omega) (by rw [← size_list]; omega)]; dsimp only
  rw [inText_app _ _ 200 (by rw [← size_list]; omega) (by rw [← size_list]; omega)]; dsimp only
  rw [inTake_be2 8 _ _]; dsimp only
  rw [i64L_be64 _ ⟨hf.i0, hf.i1⟩, beVal_beBytes 8 _ (canB_lt hf.v1), canB_canB]
  rfl
theorem rdEvs_app (l : List Ev) (b : List UInt8) (hv : l.all validE = true) (hf : ∀ e ∈ l, e.fits) : rdEvs l.length (evsL l ++ b) 0 = (l.map Ev.can, b, 0) := by
  induction l with
  | nil => rfl
  | cons e l ih =>
    rw [List.all_cons, Bool.and_eq_true] at hv
    rw [List.length_cons, rdEvs_step, evsL_cons, List.append_assoc, rdEv_app e _ hv.1 (hf e (by simp)), ih hv.2 (fun x hx => hf x (by simp [hx]))]
    rfl
/-- what is right of a command that can be -/
theorem checkC_right {c : Cmd} (h : checkC c = 0) : (1 ≤ c.k ∧ c.k ≤ 5) ∧ c.s.size ≤ 60 ∧ c.es.length ≤ 8 ∧ c.es.all validE = true := by
  unfold checkC at h
  split at h
  · cases h
  next h1 =>
  split at h
  · cases h
  next h2 =>
  split at h
  · next h3 => exact absurd h h3.2
  next h3 =>
  split at h
  · cases h
  next h4 =>
  refine ⟨by omega, ?_, ?_⟩
  · by_cases hk : c.k ≤ 3
    · have hn : nameB c.s = true := by cases hq : nameB c.s with
        | true => rfl
        | false => exact absurd ⟨hk, hq⟩ h2
      unfold nameB at hn
      simp only [Bool.and_eq_true, decide_eq_true_eq] at hn
      omega
    · have h5 : spareB c = false := by cases hq : spareB c with
        | false => rfl
        | true => exact absurd (.inr (.inr hq)) h4
      unfold spareB at h5
      simp only [Bool.or_eq_false_iff, Bool.and_eq_false_iff, Bool.not_eq_false', Bool.or_eq_true, decide_eq_true_eq] at h5
      have := h5.1.1.1
      omega
  · by_cases hk : c.k = 1
    · have he : evsErr c.es = 0 := Classical.byContradiction fun hq => h3 ⟨hk, hq⟩
      unfold evsErr at he
      split at he
      · cases he
      · split at he
        · cases he
        · split at he
          · next h6 => exact ⟨by omega, h6⟩
          · cases he
    · have h5 : spareB c = false := by cases hq : spareB c with
        | false => rfl
        | true => exact absurd (.inr (.inr hq)) h4
      unfold spareB at h5
      simp only [Bool.or_eq_false_iff, Bool.and_eq_false_iff, Bool.not_eq_false', decide_eq_true_eq, decide_eq_false_iff_not] at h5
      have hl : c.es.length = 0 := by have := h5.1.2; omega
      rw [List.eq_nil_of_length_eq_zero hl]
      exact ⟨by simp, rfl⟩
theorem readC_app (c : Cmd) (b : List UInt8) (h : checkC c = 0) (hf : c.fits) : readC (cmdL c ++ b) = (c.can, b, 0) := by
  obtain ⟨hk, hs, hn, hv⟩ := checkC_right h
  have e0 : inTake 1 (cmdL c ++ b) 0 = (beBytes 1 c.k.toNat, be64 c.t ++ (textL c.s.data.toList ++ (be64 c.x ++ (beBytes 1 c.es.length ++ (evsL c.es ++ (be64 c.m0 ++ (be64 c.m1 ++ (be64 c.m2 ++ b))))))), 0) := by
    unfold cmdL headC metaL; simp only [List.append_assoc]; exact inTake_be2 _ _ _
  unfold readC
  rw [e0]; dsimp only
  rw [inTake_be64]; dsimp only
  rw [inText_app _ _ 60 (by rw [← size_list]; omega) (by rw [← size_list]; omega)]; dsimp only
  rw [inTake_be64]; dsimp only
  rw [inTake_be2]; dsimp only
  rw [beVal_beBytes 1 c.es.length (by omega), rdEvs_app c.es _ hv hf.es]; dsimp only
  rw [inTake_be64]; dsimp only
  rw [inTake_be64]; dsimp only
  rw [inTake_be64]; dsimp only
  rw [beVal_beBytes 1 c.k.toNat (by omega), i64L_be64 _ ⟨hf.t0, hf.t1⟩, i64L_be64 _ ⟨hf.x0, hf.x1⟩, i64L_be64 _ ⟨hf.a0, hf.a1⟩, i64L_be64 _ ⟨hf.b0, hf.b1⟩, i64L_be64 _ ⟨hf.d0, hf.d1⟩]
  rw [show ((c.k.toNat : Nat) : Int) = c.k from by omega]
  rfl
theorem evL_can (e : Ev) : evL e.can = evL e := by unfold evL Ev.can; simp only [canB_canB]
theorem evsL_can (l : List Ev) : evsL (l.map Ev.can) = evsL l := by
  induction l with
  | nil => rfl
  | cons e l ih => rw [List.map_cons, evsL_cons, evsL_cons, evL_can, ih]
theorem validE_can (l : List Ev) : (l.map Ev.can).all validE = l.all validE := by
  induction l with
  | nil => rfl
  | cons e l ih => rw [List.map_cons, List.all_cons, List.all_cons, ih]; rfl
theorem checkC_can (c : Cmd) : checkC c.can = checkC c := by
  have h1 : evsErr (c.es.map Ev.can) = evsErr c.es := by unfold evsErr; rw [validE_can, List.length_map]
  have h2 : spareB c.can = spareB c := by unfold spareB Cmd.can; simp only [List.length_map]
  unfold checkC
  rw [h2]
  unfold Cmd.can
  dsimp only
  rw [h1]
theorem putC_can (c : Cmd) : putC c.can = putC c := by
  have h1 : cmdL c.can = cmdL c := by unfold cmdL headC metaL Cmd.can; dsimp only; rw [evsL_can, List.length_map]
  unfold putC
  rw [checkC_can, h1]
theorem putC_ok {c : Cmd} (h : (putC c).2 = 0) : checkC c = 0 ∧ putC c = (cmdL c, 0) := by
  unfold putC at h
  split at h
  · next hc => exact ⟨hc, by unfold putC; rw [if_pos hc]⟩
  · next hc => exact absurd h hc
theorem putC_snd (c : Cmd) : (putC c).2 = checkC c := by
  unfold putC; split
  · next h => exact h.symm
  · rfl
theorem putC_bad {c : Cmd} (h : checkC c ≠ 0) : putC c = ([], checkC c) := by unfold putC; rw [if_neg h]
theorem getC_put (c : Cmd) (h : (putC c).2 = 0) (hf : c.fits) : getC (putC c).1 = (c.can, 0) := by
  obtain ⟨hc, hp⟩ := putC_ok h
  have hr : readC (putC c).1 = (c.can, [], 0) := by have := readC_app c [] hc hf; rw [List.append_nil] at this; rw [hp]; exact this
  unfold getC
  rw [hr]
  dsimp only
  rw [if_neg (by simp [endL]), if_neg]
  rw [putC_can, h]
  simp
/-- what was got has just these bytes -/
theorem getC_ok {b : List UInt8} (h : (getC b).2 = 0) : (putC (getC b).1) = (b, 0) ∧ readC b = ((getC b).1, [], 0) := by
  unfold getC at h ⊢
  split at h
  · next h1 => exact absurd h h1
  next h1 =>
  split at h
  · cases h
  next h2 =>
  rw [if_neg h1, if_neg h2]
  dsimp only
  have h3 : (putC (readC b).1).2 = 0 ∧ (putC (readC b).1).1 = b := by
    constructor
    · exact Classical.byContradiction fun hq => h2 (.inl hq)
    · exact Classical.byContradiction fun hq => h2 (.inr hq)
  have h4 : (readC b).2.2 = 0 ∧ (readC b).2.1 = [] := by
    unfold endL at h1
    split at h1
    · exact absurd (by decide) h1
    · next hq =>
      have hz : (readC b).2.2 = 0 := Classical.byContradiction h1
      refine ⟨hz, ?_⟩
      apply Classical.byContradiction
      intro hne
      exact hq ⟨hz, List.length_pos_iff.2 hne⟩
  exact ⟨Prod.ext h3.2 h3.1, Prod.ext rfl (Prod.ext h4.2 h4.1)⟩
/-- with more behind it it is no command -/
theorem getC_more (c : Cmd) (b : List UInt8) (h : (putC c).2 = 0) (hf : c.fits) (hb : b ≠ []) : (getC ((putC c).1 ++ b)).2 ≠ 0 := by
  obtain ⟨hc, hp⟩ := putC_ok h
  have hr : readC ((putC c).1 ++ b) = (c.can, b, 0) := by rw [hp]; exact readC_app c b hc hf
  intro h0
  have := (getC_ok h0).2
  rw [hr] at this
  have := (Prod.mk.inj this).2
  exact hb (Prod.mk.inj this).1
theorem canB_inj {a b : Ev} (h : a.can = b.can) : sameE a b = true := by
  unfold Ev.can at h
  injection h with h1 h2 h3 h4
  unfold sameE
  simp [h1, h2, h3, h4]
theorem sameE_can {a b : Ev} (h : sameE a b = true) : a.can = b.can := by
  unfold sameE at h
  simp only [Bool.and_eq_true, decide_eq_true_eq] at h
  obtain ⟨⟨⟨h1, h2⟩, h3⟩, h4⟩ := h
  unfold Ev.can
  rw [h1, h2, h3, h4]
def sameEs (l m : List Ev) : Bool := decide (l.length = m.length) && (l.zip m).all fun p => sameE p.1 p.2
/-- are two commands alike? -/
def sameC (a b : Cmd) : Bool :=
  decide (a.k = b.k) && decide (a.t = b.t) && decide (a.s = b.s) && decide (a.x = b.x) && (decide (a.m0 = b.m0) && decide (a.m1 = b.m1) && decide (a.m2 = b.m2)) && sameEs a.es b.es
theorem sameE_iff (a b : Ev) : sameE a b = true ↔ a.can = b.can := ⟨sameE_can, canB_inj⟩
theorem zip_same : ∀ (l m : List Ev), l.length = m.length → (((l.zip m).all fun p => sameE p.1 p.2) = true ↔ l.map Ev.can = m.map Ev.can)
  | [], [], _ => by simp
  | [], b :: m, h => by simp at h
  | a :: l, [], h => by simp at h
  | a :: l, b :: m, h => by
    have ih := zip_same l m (by simpa using h)
    rw [List.zip_cons_cons, List.all_cons, Bool.and_eq_true, ih, List.map_cons, List.map_cons, sameE_iff, List.cons.injEq]
theorem sameEs_iff (l m : List Ev) : sameEs l m = true ↔ l.map Ev.can = m.map Ev.can := by
  unfold sameEs
  rw [Bool.and_eq_true, decide_eq_true_eq]
  constructor
  · rintro ⟨h1, h2⟩; exact (zip_same l m h1).1 h2
  · intro h
    have h1 : l.length = m.length := by have := congrArg List.length h; simpa using this
    exact ⟨h1, (zip_same l m h1).2 h⟩
theorem sameC_iff (a b : Cmd) : sameC a b = true ↔ a.can = b.can := by
  obtain ⟨k, t, s, x, es, m0, m1, m2⟩ := a
  obtain ⟨k', t', s', x', es', m0', m1', m2'⟩ := b
  unfold sameC Cmd.can
  simp only [Bool.and_eq_true, decide_eq_true_eq, sameEs_iff, Cmd.mk.injEq]
  constructor
  · rintro ⟨⟨⟨⟨⟨h1, h2⟩, h3⟩, h4⟩, ⟨h5, h6⟩, h7⟩, h8⟩; exact ⟨h1, h2, h3, h4, h8, h5, h6, h7⟩
  · rintro ⟨h1, h2, h3, h4, h8, h5, h6, h7⟩; exact ⟨⟨⟨⟨⟨h1, h2⟩, h3⟩, h4⟩, ⟨h5, h6⟩, h7⟩, h8⟩
theorem sameC_refl (a : Cmd) : sameC a a = true := (sameC_iff a a).2 rfl
theorem sameC_symm (a b : Cmd) : sameC a b = sameC b a := by
  rw [Bool.eq_iff_iff, sameC_iff, sameC_iff]
  exact ⟨Eq.symm, Eq.symm⟩
/-- alike are just those whose bytes are alike -/
theorem putC_same (a b : Cmd) (ha : (putC a).2 = 0) (hb : (putC b).2 = 0) (fa : a.fits) (fb : b.fits) : decide ((putC a).1 = (putC b).1) = sameC a b := by
  rw [Bool.eq_iff_iff, sameC_iff, decide_eq_true_eq]
  constructor
  · intro h
    have h1 := getC_put a ha fa
    have h2 := getC_put b hb fb
    rw [h, h2] at h1
    exact (Prod.mk.inj h1).1.symm
  · intro h
    rw [← putC_can a, h, putC_can b]
end Go.Proofs.Ytfpalamoaflilaa
