/- One byte changed changes the sum. No program here. -/
import Derived.Test.YtfjilngofdahgaaCrc
import Derived.Test.YtfjilngofdahgaaJIndexBytes1

namespace Go.Proofs.Ytfjilngofdahgaa

theorem crcBit_nat (x : BitVec 32) : (crcBit x).toNat = if x.toNat % 2 = 1 then (x.toNat / 2) ^^^ 3988292384 else x.toNat / 2 := by
  have h1 : (x &&& 1#32 = 1#32) ↔ x.toNat % 2 = 1 := by
    constructor
    · intro h
      have := congrArg BitVec.toNat h
      rw [BitVec.toNat_and] at this
      simpa [Nat.and_one_is_mod] using this
    · intro h
      apply BitVec.eq_of_toNat_eq
      rw [BitVec.toNat_and]
      simpa [Nat.and_one_is_mod] using h
  unfold crcBit
  by_cases h : x.toNat % 2 = 1
  · rw [if_pos (h1.2 h), if_pos h, BitVec.toNat_xor, BitVec.toNat_ushiftRight, Nat.shiftRight_eq_div_pow]
    rfl
  · rw [if_neg (fun e => h (h1.1 e)), if_neg h, BitVec.toNat_ushiftRight, Nat.shiftRight_eq_div_pow]

theorem top_bit (n : Nat) (h : n < 2147483648) : (n ^^^ 3988292384).testBit 31 = true ∧ n.testBit 31 = false := by
  have h2 : n.testBit 31 = false := Nat.testBit_lt_two_pow (by omega)
  refine ⟨?_, h2⟩
  rw [Nat.testBit_xor, h2]
  decide +kernel

theorem crcBit_inj {x y : BitVec 32} (h : crcBit x = crcBit y) : x = y := by
  have hx := x.isLt
  have hy := y.isLt
  have hn := congrArg BitVec.toNat h
  rw [crcBit_nat, crcBit_nat] at hn
  apply BitVec.eq_of_toNat_eq
  have tx := top_bit (x.toNat / 2) (by omega)
  have ty := top_bit (y.toNat / 2) (by omega)
  by_cases a : x.toNat % 2 = 1 <;> by_cases b : y.toNat % 2 = 1
  · rw [if_pos a, if_pos b] at hn
    have := congrArg (· ^^^ 3988292384) hn
    simp only [Nat.xor_assoc, Nat.xor_self, Nat.xor_zero] at this
    omega
  · rw [if_pos a, if_neg b] at hn
    have := tx.1
    rw [hn, ty.2] at this
    cases this
  · rw [if_neg a, if_pos b] at hn
    have := ty.1
    rw [← hn, tx.2] at this
    cases this
  · rw [if_neg a, if_neg b] at hn
    omega

theorem crcBits_inj (n : Nat) {x y : BitVec 32} (h : crcBits n x = crcBits n y) : x = y := by
  induction n with
  | zero => exact h
  | succ n ih => exact ih (crcBit_inj h)
theorem xor_cancel {x y z : BitVec 32} (h : x ^^^ z = y ^^^ z) : x = y := by
  have := congrArg (· ^^^ z) h
  simpa [BitVec.xor_assoc] using this
theorem crcByte_inj {x y : BitVec 32} {c : UInt8} (h : crcByte x c = crcByte y c) : x = y := xor_cancel (crcBits_inj 8 h)
theorem crcByte_byte {x : BitVec 32} {c d : UInt8} (h : crcByte x c = crcByte x d) : c = d := by
  have h1 := crcBits_inj 8 h
  rw [BitVec.xor_comm x, BitVec.xor_comm x] at h1
  have h2 := congrArg BitVec.toNat (xor_cancel h1)
  rw [BitVec.toNat_setWidth, BitVec.toNat_setWidth] at h2
  have hc := c.toNat_lt
  have hd := d.toNat_lt
  simp only [UInt8.toNat_toBitVec] at h2
  apply UInt8.toNat_inj.1
  omega
theorem crcRaw_inj (l : List UInt8) : ∀ {x y : BitVec 32}, crcRaw x l = crcRaw y l → x = y := by
  induction l with
  | nil => intro x y h; exact h
  | cons c l ih => intro x y h; exact crcByte_inj (ih (x := crcByte x c) (y := crcByte y c) h)
theorem crc_one (a b : List UInt8) {c d : UInt8} (h : c ≠ d) : crc (a ++ c :: b) ≠ crc (a ++ d :: b) := by
  intro e
  have h1 := xor_cancel e
  rw [crcRaw_append, crcRaw_append] at h1
  exact h (crcByte_byte (crcRaw_inj b (x := crcByte _ c) (y := crcByte _ d) h1))
theorem set_split (l : List UInt8) (p : Nat) (hp : p < l.length) (c : UInt8) : l = l.take p ++ l[p] :: l.drop (p + 1) ∧ l.set p c = l.take p ++ c :: l.drop (p + 1) := by
  constructor
  · simp
  · rw [List.set_eq_take_append_cons_drop, if_pos hp]
theorem crc_set (l : List UInt8) (p : Nat) (hp : p < l.length) (c : UInt8) (hc : c ≠ l[p]) : crc (l.set p c) ≠ crc l := by
  have h := set_split l p hp c
  rw [h.2]
  conv => rhs; rw [h.1]
  exact crc_one _ _ hc

theorem beBytes_inj (k : Nat) {m n : Nat} (hm : m < 256 ^ k) (hn : n < 256 ^ k) (h : beBytes k m = beBytes k n) : m = n := by
  induction k generalizing m n with
  | zero => simp at hm hn; omega
  | succ k ih =>
    simp only [beBytes, List.cons.injEq] at h
    have h1 := congrArg UInt8.toNat h.1
    rw [byteAt_toNat, byteAt_toNat] at h1
    have hp : 0 < 256 ^ k := Nat.pow_pos (by decide)
    have a1 : m / 256 ^ k < 256 := (Nat.div_lt_iff_lt_mul hp).2 (by rw [Nat.pow_succ] at hm; omega)
    have a2 : n / 256 ^ k < 256 := (Nat.div_lt_iff_lt_mul hp).2 (by rw [Nat.pow_succ] at hn; omega)
    rw [Nat.mod_eq_of_lt a1, Nat.mod_eq_of_lt a2] at h1
    have key : ∀ x : Nat, beBytes k (x % 256 ^ k) = beBytes k x := by
      intro x
      have : ∀ j, j ≤ k → beBytes j (x % 256 ^ k) = beBytes j x := by
        intro j
        induction j with
        | zero => intro _; rfl
        | succ j ihj =>
          intro hj
          simp only [beBytes]
          rw [ihj (by omega)]
          congr 1
          apply UInt8.toNat_inj.1
          rw [byteAt_toNat, byteAt_toNat]
          have e : 256 ^ k = 256 ^ j * 256 ^ (k - j) := by rw [← Nat.pow_add]; congr 1; omega
          rw [e, Nat.mod_mul_right_div_self]
          have e2 : 256 ^ (k - j) = 256 * 256 ^ (k - j - 1) := by rw [← Nat.pow_succ']; congr 1; omega
          rw [e2, Nat.mod_mul_right_mod]
      exact this k (Nat.le_refl _)
    have h2 := ih (Nat.mod_lt m hp) (Nat.mod_lt n hp) (by rw [key, key]; exact h.2)
    rw [← Nat.div_add_mod m (256 ^ k), ← Nat.div_add_mod n (256 ^ k), h1, h2]
/-- the sum of a text, in four bytes -/
def sum4 (l : List UInt8) : List UInt8 := beBytes 4 (crc l).toNat

theorem crc_lt (l : List UInt8) : (crc l).toNat < 4294967296 := (crc l).isLt
theorem sum4_length (l : List UInt8) : (sum4 l).length = 4 := beBytes_length _ _
/-- what Open tells of bytes -/
def openL (l : List UInt8) : List UInt8 × Int := if l.length < 4 then ([], 5) else if l.take 4 = sum4 (l.drop 4) then (l.drop 4, 0) else ([], 7)

theorem openL_seal (l : List UInt8) : openL (sum4 l ++ l) = (l, 0) := by
  have h4 := sum4_length l
  unfold openL
  rw [if_neg (by rw [List.length_append]; omega)]
  simp only [List.take_append, List.drop_append, h4]
  rw [show List.take 4 (sum4 l) = sum4 l from List.take_of_length_le (by omega), show List.drop 4 (sum4 l) = [] from List.drop_of_length_le (by omega)]
  simp


/-- one byte of what was sealed is changed: the sum is wrong -/
theorem openL_changed (l : List UInt8) (p : Nat) (hp : p < (sum4 l ++ l).length) (c : UInt8) (hc : c ≠ (sum4 l ++ l)[p]) : openL ((sum4 l ++ l).set p c) = ([], 7) := by
  have h4 := sum4_length l
  have hl : (sum4 l ++ l).length = 4 + l.length := by rw [List.length_append, h4]
  unfold openL
  rw [if_neg (by rw [List.length_set]; omega), if_neg]
  intro e
  by_cases hp4 : p < 4
  · rw [List.set_append_left _ _ (by omega)] at e
    rw [List.getElem_append_left (by omega)] at hc
    rw [List.take_left' (by rw [List.length_set]; exact h4), List.drop_left' (by rw [List.length_set]; exact h4)] at e
    have := congrArg (fun x => x[p]?) e
    simp only [List.getElem?_set_self (show p < (sum4 l).length by omega), List.getElem?_eq_getElem (show p < (sum4 l).length by omega)] at this
    exact hc (by injection this)
  · rw [List.set_append_right _ _ (by omega)] at e
    rw [List.getElem_append_right (by omega)] at hc
    rw [List.take_left' h4, List.drop_left' h4] at e
    have h1 := beBytes_inj 4 (crc l).isLt (crc (l.set (p - (sum4 l).length) c)).isLt e
    have h2 : crc l = crc (l.set (p - (sum4 l).length) c) := BitVec.eq_of_toNat_eq h1
    exact crc_set l _ (by omega) c hc h2.symm
end Go.Proofs.Ytfjilngofdahgaa
