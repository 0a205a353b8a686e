/- the document's own sum. -/
import Derived.Test.YtfkkcgdniepgoaaGreatRows
import Derived.Test.YtfkkcgdniepgoaaGreatJTableTells2
import Derived.Test.YtfkkcgdniepgoaaGreatCTableTellsBytes
import Derived.Test.YtfkkcgdniepgoaaGreatClone
import Derived.RegionTactic
import Derived.Deep.QuietTactic
import Derived.BigQuiet
import Derived.Deep.RegionWith

namespace Go.Proofs.YtfkkcgdniepgoaaGreat
open Go.RowKit
set_option maxHeartbeats 400000
set_option linter.unusedVariables false

theorem take_snoc' (s : ByteArray) (k : Nat) (h : k < s.size) : s.data.toList.take (k + 1) = s.data.toList.take k ++ [s[k]] := by
  rw [List.take_succ_eq_append_getElem (by simpa using h)]; rfl

theorem odd_iff (z : BitVec 32) : (z &&& 1#32 = 1#32) ↔ z.toNat % 2 = 1 := by
  constructor
  · intro h
    have := congrArg BitVec.toNat h
    rw [BitVec.toNat_and] at this
    simpa [Nat.and_one_is_mod] using this
  · intro h
    apply BitVec.eq_of_toNat_eq
    rw [BitVec.toNat_and]
    simpa [Nat.and_one_is_mod] using h
theorem crcBit_rem1 (z : BitVec 32) (h : ((z.toNat : Int) % 2 == 1) = true) : bits .xor .u32 ((z.toNat : Int) / 2) 3988292384 = ((crcBit z).toNat : Int) := by
  rw [half_u32, bits_xor_poly, crcBit, if_pos ((odd_iff z).2 (by have := beq_iff_eq.1 h; omega))]
theorem crcBit_rem0 (z : BitVec 32) (h : ((z.toNat : Int) % 2 == 1) = false) : ((z.toNat : Int) / 2) = ((crcBit z).toNat : Int) := by
  rw [half_u32, crcBit, if_neg (fun e => by have := (odd_iff z).1 e; have := beq_eq_false_iff_ne.1 h; omega)]
theorem ones_minus (y : BitVec 32) : (4294967295 - (y.toNat : Int)) = ((y ^^^ 4294967295#32).toNat : Int) := by
  have h := y.isLt
  rw [show (4294967295#32 : BitVec 32) = BitVec.allOnes 32 from rfl, BitVec.xor_allOnes, BitVec.toNat_not]
  omega

theorem refSum_any (s : ByteArray) (w : World) (hs : s.size ≤ 9223372036854775807) :
    Calls Tryz.prog 93 #[.string s] w fun e w' => e = .returned (.int .u32 (crc s.data.toList).toNat) ∧ w = w' := by
  go_enter Tryz.func93, Tryz.ntmps93
  go_wp2
  go_loop [3, 4] (fun x i => ∃ m : Nat, m ≤ s.size ∧ i = .int .i64 m ∧ x = .int .u32 (crcRaw 4294967295#32 (s.data.toList.take m)).toNat) (fun _ i => s.size - (intOf i).toNat)
  case atStart => exact ⟨0, Nat.zero_le _, rfl, rfl⟩
  case round =>
    obtain ⟨m, hm, rfl, rfl⟩ := hrel
    generalize hy : crcRaw 4294967295#32 (s.data.toList.take m) = y
    have Hy := Lib.hid hy; clear hy
    by_cases hlm : m < s.size
    · go_wp2
      go_loop [3, 5] (fun z i => ∃ p : Nat, p ≤ 8 ∧ i = .int .i64 p ∧ z = .int .u32 (crcBits p (y ^^^ (s[m]).toBitVec.setWidth 32)).toNat) (fun _ i => 8 - (intOf i).toNat)
      case atStart => exact ⟨0, Nat.zero_le _, rfl, by rw [bits_xor_byte]; rfl⟩
      case round =>
        obtain ⟨p, hp, rfl, rfl⟩ := hrel
        generalize hz : crcBits p (y ^^^ (s[m]).toBitVec.setWidth 32) = z
        have Hz := Lib.hid hz; clear hz
        by_cases hlp : p < 8
        · go_wp2
          · go_round
            case rel => exact ⟨p + 1, by omega, by go_num, int_eq ((crcBit_rem1 z (by assumption)).trans (by rw [← Hz.out]; rfl))⟩
            case measure => simp [intOf]; omega
          · go_round
            case rel => exact ⟨p + 1, by omega, by go_num, int_eq ((crcBit_rem0 z (by assumption)).trans (by rw [← Hz.out]; rfl))⟩
            case measure => simp [intOf]; omega
        · obtain rfl : p = 8 := by omega
          go_wp2
          go_round
          case rel => exact ⟨m + 1, by omega, by go_num, int_eq (by rw [take_snoc' s m hlm, crcRaw_snoc, Hy.out, ← Hz.out]; rfl)⟩
          case measure => simp [intOf]; omega
    · have hl : s.data.toList.take m = s.data.toList := List.take_of_length_le (by rw [← size_list]; omega)
      rw [hl] at Hy
      clear hl
      go_wp2
      go_ret
      refine ⟨?_, rfl⟩
      rw [ones_minus, ← Hy.out]
      rfl

end Go.Proofs.YtfkkcgdniepgoaaGreat

/- the document's own sums: four, Seal, Open. -/
namespace Go.Proofs.YtfkkcgdniepgoaaGreat
open Go.RowKit
set_option maxHeartbeats 400000
set_option linter.unusedVariables false

theorem byteAt_int (n i : Nat) (d : Nat) (hd : 256 ^ i = d) : (n : Int) / (d : Int) % 256 = ((byteAt n i).toNat : Int) := by
  rw [byteAt_toNat, hd, ← Int.natCast_ediv]; rfl
theorem byteAt_top (n i : Nat) (d : Nat) (hd : 256 ^ i = d) (hn : n < 256 * d) : (n : Int) / (d : Int) = ((byteAt n i).toNat : Int) := by
  rw [byteAt_toNat, hd, ← Int.natCast_ediv, Nat.mod_eq_of_lt (Nat.div_lt_of_lt_mul (by rw [Nat.mul_comm]; exact hn))]
theorem byteAt_low (n : Nat) : (n : Int) % 256 = ((byteAt n 0).toNat : Int) := by
  rw [byteAt_toNat, Nat.pow_zero, Nat.div_one]; rfl

theorem four_any (x : BitVec 32) (w : World) :
    Calls Tryz.prog 92 #[.int .u32 (x.toNat : Int)] w fun e w' => e = .returned (.string ⟨(beBytes 4 x.toNat).toArray⟩) ∧ Below w.heap.size w w' := by
  have hx := x.isLt
  have e3 : (x.toNat : Int) / 16777216 = _ := byteAt_top x.toNat 3 16777216 rfl (by omega)
  have e2 : (x.toNat : Int) / 65536 % 256 = _ := byteAt_int x.toNat 2 65536 rfl
  have e1 : (x.toNat : Int) / 256 % 256 = _ := byteAt_int x.toNat 1 256 rfl
  have e0 := byteAt_low x.toNat
  have hstr := run_str_row (P := Tryz.prog) _ 72 9 5 Tryz.underlying72 Tryz.underlying5 Tryz.underlying9 w.heap.size 4 [byteAt x.toNat 3, byteAt x.toNat 2, byteAt x.toNat 1, byteAt x.toNat 0]
    ((BlkIs.new w 5 #[byteV (byteAt x.toNat 3), byteV (byteAt x.toNat 2), byteV (byteAt x.toNat 1), byteV (byteAt x.toNat 0)]).bytes rfl)
  simp only [List.length_cons, List.length_nil, Nat.zero_add, Nat.reduceAdd, byteV] at hstr
  go_enter Tryz.func92, Tryz.ntmps92
  go_wp2
  go_ret
  exact ⟨rfl, (Below.refl _ _).alloc (Nat.le_refl _) _⟩

theorem sum4_ref (l : List UInt8) : beBytes 4 (crc l).toNat = sum4 l := rfl

theorem refSeal_any (s : ByteArray) (w : World) (hs : s.size ≤ 1000000000) :
    Calls Tryz.prog 85 #[.string s] w fun e w' => e = .returned (.string ⟨(sum4 s.data.toList ++ s.data.toList).toArray⟩) ∧ Below w.heap.size w w' := by
  have h4 : (sum4 s.data.toList).length ≤ 4 := by rw [sum4_length]; omega
  go_enter Tryz.func85, Tryz.ntmps85
  go_wp2_with fail
  refine (refSum_any s _ (by omega)).mono ?_
  rintro e w1 ⟨rfl, rfl⟩
  go_wp2_with fail
  refine (four_any _ _).mono ?_
  rintro e w1 ⟨rfl, hb1⟩
  rw [sum4_ref]
  go_wp2_with fail
  all_goals first
    | (exfalso; omega)
    | (go_ret; exact ⟨by rw [str_append]; rfl, hb1⟩)

theorem refOpen_any (s : ByteArray) (w : World) (hs : s.size ≤ 1000000000) :
    Calls Tryz.prog 45 #[.string s] w fun e w' => e = .returned (.tuple #[.string ⟨(openL s.data.toList).1.toArray⟩, .int .i64 (openL s.data.toList).2]) ∧ Below w.heap.size w w' := by
  have hsl := size_list s
  by_cases h4 : s.size < 4
  · have hv : openL s.data.toList = ([], 5) := by unfold openL; rw [if_pos (by omega)]
    have Hv := Lib.hid hv; clear hv hsl
    go_enter Tryz.func45, Tryz.ntmps45
    go_wp2_with fail
    go_ret2
    rw [Hv.out]
    exact ⟨rfl, Below.refl _ _⟩
  · have hv : openL s.data.toList = if s.data.toList.take 4 = sum4 (s.data.toList.drop 4) then (s.data.toList.drop 4, 0) else ([], 7) := by unfold openL; rw [if_neg (by omega)]
    have Hv := Lib.hid hv; clear hv hsl
    have h4' : (4 : Int) ≤ (s.size : Int) := by omega
    go_enter Tryz.func45, Tryz.ntmps45
    go_wp2_with fail
    go_region_with (first | (go_at_call 93; refine (refSum_any _ _ (by simp <;> omega)).mono ?_; rintro e w1 ⟨rfl, rfl⟩) | (go_at_call 92; refine (four_any _ _).mono ?_; rintro e w1 ⟨rfl, hb1⟩))
    go_wp2_with fail
    · have ht : (!beBytes 4 (crc (List.take (s.size - 4) (List.drop 4 s.data.toList))).toNat == (s.extract 0 4).toList) = true := by assumption
      rw [ByteArray.toList_eq, take_rest _ _ rfl, str_to, sum4_ref] at ht
      go_ret2
      rw [Hv.out, if_neg (by intro e; rw [e] at ht; simp at ht)]
      exact ⟨rfl, below_undrew hb1⟩
    · have ht : (!beBytes 4 (crc (List.take (s.size - 4) (List.drop 4 s.data.toList))).toNat == (s.extract 0 4).toList) = false := by assumption
      rw [ByteArray.toList_eq, take_rest _ _ rfl, str_to, sum4_ref] at ht
      go_ret2
      rw [Hv.out, if_pos (by have := (by simpa using ht : sum4 (List.drop 4 s.data.toList) = List.take 4 s.data.toList); exact this.symm)]
      exact ⟨by simp [str_from], below_undrew hb1⟩
end Go.Proofs.YtfkkcgdniepgoaaGreat
