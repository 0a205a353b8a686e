/- The check sum as a plain function of bytes, bit by bit, and its laws. No program here. -/
import Derived.WalkKit
namespace Go.Proofs.Ytfjilngofdahgaa
open Go.RowKit

def crcBit (x : BitVec 32) : BitVec 32 := if x &&& 1#32 = 1#32 then (x >>> 1) ^^^ 3988292384#32 else x >>> 1
def crcBits : Nat → BitVec 32 → BitVec 32
  | 0, x => x
  | n + 1, x => crcBit (crcBits n x)
def crcByte (x : BitVec 32) (b : UInt8) : BitVec 32 := crcBits 8 (x ^^^ b.toBitVec.setWidth 32)
def crcRaw (x : BitVec 32) (l : List UInt8) : BitVec 32 := l.foldl crcByte x
def crc (l : List UInt8) : BitVec 32 := crcRaw 4294967295#32 l ^^^ 4294967295#32

theorem crcRaw_append (x : BitVec 32) (l m : List UInt8) : crcRaw x (l ++ m) = crcRaw (crcRaw x l) m := by simp [crcRaw]
theorem crcRaw_snoc (x : BitVec 32) (l : List UInt8) (c : UInt8) : crcRaw x (l ++ [c]) = crcByte (crcRaw x l) c := by simp [crcRaw]

/-- a number of 32 bits as a value -/
theorem u32_lt (x : BitVec 32) : (0 : Int) ≤ (x.toNat : Int) ∧ (x.toNat : Int) ≤ 4294967295 := by
  have := x.isLt; omega

theorem bits_xor_u32 (x y : BitVec 32) : bits .xor .u32 (x.toNat : Int) (y.toNat : Int) = ((x ^^^ y).toNat : Int) := by
  show IntKind.u32.wrap (((BitVec.ofInt 32 (x.toNat : Int)) ^^^ (BitVec.ofInt 32 (y.toNat : Int))).toNat : Int) = _
  rw [show BitVec.ofInt 32 (x.toNat : Int) = x from by simp, show BitVec.ofInt 32 (y.toNat : Int) = y from by simp]
  exact IntWalk.u32_in _ (u32_lt _)
theorem bits_and_u32 (x y : BitVec 32) : bits .and .u32 (x.toNat : Int) (y.toNat : Int) = ((x &&& y).toNat : Int) := by
  show IntKind.u32.wrap (((BitVec.ofInt 32 (x.toNat : Int)) &&& (BitVec.ofInt 32 (y.toNat : Int))).toNat : Int) = _
  rw [show BitVec.ofInt 32 (x.toNat : Int) = x from by simp, show BitVec.ofInt 32 (y.toNat : Int) = y from by simp]
  exact IntWalk.u32_in _ (u32_lt _)
theorem bits_xor_byte (y : BitVec 32) (c : UInt8) : bits .xor .u32 (y.toNat : Int) ((c.toNat : Int) % 4294967296) = ((y ^^^ c.toBitVec.setWidth 32).toNat : Int) := by
  have hc : c.toNat < 256 := c.toNat_lt
  rw [show ((c.toNat : Int) % 4294967296) = ((c.toBitVec.setWidth 32).toNat : Int) from by
    rw [BitVec.toNat_setWidth]; simp [UInt8.toNat_toBitVec]; omega]
  exact bits_xor_u32 _ _
theorem bits_xor_poly (y : BitVec 32) : bits .xor .u32 (y.toNat : Int) 3988292384 = ((y ^^^ 3988292384#32).toNat : Int) := bits_xor_u32 y 3988292384#32
theorem bits_xor_ones (y : BitVec 32) : bits .xor .u32 (y.toNat : Int) 4294967295 = ((y ^^^ 4294967295#32).toNat : Int) := bits_xor_u32 y 4294967295#32
theorem bits_and_odd (y : BitVec 32) (h : y &&& 1#32 = 1#32) : bits .and .u32 (y.toNat : Int) 1 = 1 := by
  have := bits_and_u32 y 1#32
  rw [h] at this
  exact this
theorem bits_and_even (y : BitVec 32) (h : ¬ y &&& 1#32 = 1#32) : bits .and .u32 (y.toNat : Int) 1 = 0 := by
  have h0 : y &&& 1#32 = 0#32 := by
    apply BitVec.eq_of_toNat_eq
    have h1 : ¬ (y &&& 1#32).toNat = (1#32).toNat := fun e => h (BitVec.eq_of_toNat_eq e)
    rw [BitVec.toNat_and] at h1 ⊢
    simp only [BitVec.toNat_ofNat, Nat.reducePow, Nat.reduceMod, Nat.and_one_is_mod] at h1 ⊢
    omega
  have := bits_and_u32 y 1#32
  rw [h0] at this
  exact this
theorem half_u32 (y : BitVec 32) : (y.toNat : Int) / (2 : Int) = ((y >>> 1).toNat : Int) := by
  rw [BitVec.toNat_ushiftRight, Nat.shiftRight_eq_div_pow]; rfl
theorem crcBit_odd (z : BitVec 32) (h : (bits .and .u32 (z.toNat : Int) 1 == 1) = true) : bits .xor .u32 ((z.toNat : Int) / 2) 3988292384 = ((crcBit z).toNat : Int) := by
  have hz : z &&& 1#32 = 1#32 := by
    by_cases hh : z &&& 1#32 = 1#32
    · exact hh
    · rw [bits_and_even z hh] at h; cases h
  rw [half_u32, bits_xor_poly, crcBit, if_pos hz]
theorem crcBit_even (z : BitVec 32) (h : (bits .and .u32 (z.toNat : Int) 1 == 1) = false) : ((z.toNat : Int) / 2) = ((crcBit z).toNat : Int) := by
  have hz : ¬ z &&& 1#32 = 1#32 := by
    intro hh
    rw [bits_and_odd z hh] at h; cases h
  rw [half_u32, crcBit, if_neg hz]
theorem int_eq {k : IntKind} {a b : Int} (h : a = b) : Value.int k a = Value.int k b := by rw [h]
end Go.Proofs.Ytfjilngofdahgaa
