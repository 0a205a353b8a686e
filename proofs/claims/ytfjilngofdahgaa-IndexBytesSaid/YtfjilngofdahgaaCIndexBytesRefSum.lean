/- the document's own sum. -/
import Derived.Test.YtfjilngofdahgaaRows
import Derived.Test.YtfjilngofdahgaaCIndexBytesCrcOne
import Derived.Test.YtfjilngofdahgaaCIndexBytesBytes
import Derived.Test.YtfjilngofdahgaaClone
import Derived.RegionTactic
import Derived.Deep.QuietTactic
import Derived.BigQuiet
import Derived.Deep.RegionWith

namespace Go.Proofs.Ytfjilngofdahgaa
open Go.RowKit
set_option maxHeartbeats 400000
set_option linter.unusedVariables false

theorem take_snoc' (s : ByteArray) (k : Nat) (h : k < s.size) : s.data.toList.take (k + 1) = s.data.toList.take k ++ [s[k]] := by
  rw [List.take_succ_eq_append_getElem (by simpa using h)]; rfl

theorem odd_iff (z : BitVec 32) : (z &&& 1#32 = 1#32) ↔ z.toNat % 2 = 1 := by
  constructor
  · intro h
    have := congrArg BitVec.toNat h
    rw [BitVec.toNat_and] at this
    simpa [Nat.and_one_is_mod] using this
  · intro h
    apply BitVec.eq_of_toNat_eq
    rw [BitVec.toNat_and]
    simpa [Nat.and_one_is_mod] using h
theorem crcBit_rem1 (z : BitVec 32) (h : ((z.toNat : Int) % 2 == 1) = true) : bits .xor .u32 ((z.toNat : Int) / 2) 3988292384 = ((crcBit z).toNat : Int) := by
  rw [half_u32, bits_xor_poly, crcBit, if_pos ((odd_iff z).2 (by have := beq_iff_eq.1 h; omega))]
theorem crcBit_rem0 (z : BitVec 32) (h : ((z.toNat : Int) % 2 == 1) = false) : ((z.toNat : Int) / 2) = ((crcBit z).toNat : Int) := by
  rw [half_u32, crcBit, if_neg (fun e => by have := (odd_iff z).1 e; have := beq_eq_false_iff_ne.1 h; omega)]
theorem ones_minus (y : BitVec 32) : (4294967295 - (y.toNat : Int)) = ((y ^^^ 4294967295#32).toNat : Int) := by
  have h := y.isLt
  rw [show (4294967295#32 : BitVec 32) = BitVec.allOnes 32 from rfl, BitVec.xor_allOnes, BitVec.toNat_not]
  omega

theorem refSum_any (s : ByteArray) (w : World) (hs : s.size ≤ 9223372036854775807) :
    Calls Try.prog 46 #[.string s] w fun e w' => e = .returned (.int .u32 (crc s.data.toList).toNat) ∧ w = w' := by
  go_enter Try.func46, Try.ntmps46
  go_wp2
  go_loop [3, 4] (fun x i => ∃ m : Nat, m ≤ s.size ∧ i = .int .i64 m ∧ x = .int .u32 (crcRaw 4294967295#32 (s.data.toList.take m)).toNat) (fun _ i => s.size - (intOf i).toNat)
  case atStart => exact ⟨0, Nat.zero_le _, rfl, rfl⟩
  case round =>
    obtain ⟨m, hm, rfl, rfl⟩ := hrel
    generalize hy : crcRaw 4294967295#32 (s.data.toList.take m) = y
    have Hy := Lib.hid hy; clear hy
    by_cases hlm : m < s.size
    · go_wp2
      go_loop [3, 5] (fun z i => ∃ p : Nat, p ≤ 8 ∧ i = .int .i64 p ∧ z = .int .u32 (crcBits p (y ^^^ (s[m]).toBitVec.setWidth 32)).toNat) (fun _ i => 8 - (intOf i).toNat)
      case atStart => exact ⟨0, Nat.zero_le _, rfl, by rw [bits_xor_byte]; rfl⟩
      case round =>
        obtain ⟨p, hp, rfl, rfl⟩ := hrel
        generalize hz : crcBits p (y ^^^ (s[m]).toBitVec.setWidth 32) = z
        have Hz := Lib.hid hz; clear hz
        by_cases hlp : p < 8
        · go_wp2
          · go_round
            case rel => exact ⟨p + 1, by omega, by go_num, int_eq ((crcBit_rem1 z (by assumption)).trans (by rw [← Hz.out]; rfl))⟩
            case measure => simp [intOf]; omega
          · go_round
            case rel => exact ⟨p + 1, by omega, by go_num, int_eq ((crcBit_rem0 z (by assumption)).trans (by rw [← Hz.out]; rfl))⟩
            case measure => simp [intOf]; omega
        · obtain rfl : p = 8 := by omega
          go_wp2
          go_round
          case rel => exact ⟨m + 1, by omega, by go_num, int_eq (by rw [take_snoc' s m hlm, crcRaw_snoc, Hy.out, ← Hz.out]; rfl)⟩
          case measure => simp [intOf]; omega
    · have hl : s.data.toList.take m = s.data.toList := List.take_of_length_le (by rw [← size_list]; omega)
      rw [hl] at Hy
      clear hl
      go_wp2
      go_ret
      refine ⟨?_, rfl⟩
      rw [ones_minus, ← Hy.out]
      rfl

end Go.Proofs.Ytfjilngofdahgaa
