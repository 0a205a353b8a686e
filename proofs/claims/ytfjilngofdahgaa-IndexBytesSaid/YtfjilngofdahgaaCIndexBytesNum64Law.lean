/- numbers of 64 bits in eight bytes. No program here. -/
import Derived.Test.YtfjilngofdahgaaCIndexBytesFrameLaw
import Derived.WalkKit

namespace Go.Proofs.Ytfjilngofdahgaa
open Go.RowKit
set_option linter.unusedVariables false

/-- a whole number as its complement of 2^64 -/
def u64of (v : Int) : Nat := (v % 18446744073709551616).toNat
theorem u64of_lt (v : Int) : u64of v < 18446744073709551616 := by unfold u64of; omega
theorem u64of_wrap (v : Int) : IntKind.u64.wrap v = ((u64of v : Nat) : Int) := by
  unfold u64of
  rw [show IntKind.u64.wrap v = v % 18446744073709551616 from by simp [IntKind.wrap, IntKind.bits, IntKind.signed]]
  omega
theorem wrap_u64of (v : Int) (h : -9223372036854775808 ≤ v ∧ v ≤ 9223372036854775807) : wrap64 ((u64of v : Nat) : Int) = v := by
  unfold u64of wrap64; omega
theorem wrap64_in64 (n : Nat) : -9223372036854775808 ≤ wrap64 (n : Int) ∧ wrap64 (n : Int) ≤ 9223372036854775807 := by unfold wrap64; omega
theorem u64of_wrap64 (n : Nat) (h : n < 18446744073709551616) : u64of (wrap64 (n : Int)) = n := by unfold u64of wrap64; omega
/-- a whole number in eight bytes -/
def be64 (v : Int) : List UInt8 := beBytes 8 (u64of v)
theorem be64_length (v : Int) : (be64 v).length = 8 := beBytes_length _ _
/-- eight bytes as a whole number -/
def i64L (l : List UInt8) : Int := wrap64 ((beVal l : Nat) : Int)
theorem i64L_be64 (v : Int) (h : -9223372036854775808 ≤ v ∧ v ≤ 9223372036854775807) : i64L (be64 v) = v := by
  unfold i64L be64; rw [beVal_beBytes 8 _ (u64of_lt v), wrap_u64of v h]
theorem be64_i64L (l : List UInt8) (h : l.length = 8) : be64 (i64L l) = l := by
  have hl := beVal_lt l
  rw [h] at hl
  unfold i64L be64
  rw [u64of_wrap64 _ hl]
  have := beBytes_beVal l
  rwa [h] at this

end Go.Proofs.Ytfjilngofdahgaa
