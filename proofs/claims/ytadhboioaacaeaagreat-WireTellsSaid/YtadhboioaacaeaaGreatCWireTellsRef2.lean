/- the document's own sums: four, Seal, Open. -/
import Derived.Test.YtadhboioaacaeaaGreatCWireTellsRefSum

namespace Go.Proofs.YtadhboioaacaeaaGreat
open Go.RowKit
set_option maxHeartbeats 400000
set_option linter.unusedVariables false

theorem byteAt_int (n i : Nat) (d : Nat) (hd : 256 ^ i = d) : (n : Int) / (d : Int) % 256 = ((byteAt n i).toNat : Int) := by
  rw [byteAt_toNat, hd, ← Int.natCast_ediv]; rfl
theorem byteAt_top (n i : Nat) (d : Nat) (hd : 256 ^ i = d) (hn : n < 256 * d) : (n : Int) / (d : Int) = ((byteAt n i).toNat : Int) := by
  rw [byteAt_toNat, hd, ← Int.natCast_ediv, Nat.mod_eq_of_lt (Nat.div_lt_of_lt_mul (by rw [Nat.mul_comm]; exact hn))]
theorem byteAt_low (n : Nat) : (n : Int) % 256 = ((byteAt n 0).toNat : Int) := by
  rw [byteAt_toNat, Nat.pow_zero, Nat.div_one]; rfl

theorem four_any (x : BitVec 32) (w : World) :
    Calls Tryz.prog 79 #[.int .u32 (x.toNat : Int)] w fun e w' => e = .returned (.string ⟨(beBytes 4 x.toNat).toArray⟩) ∧ Below w.heap.size w w' := by
  have hx := x.isLt
  have e3 : (x.toNat : Int) / 16777216 = _ := byteAt_top x.toNat 3 16777216 rfl (by omega)
  have e2 : (x.toNat : Int) / 65536 % 256 = _ := byteAt_int x.toNat 2 65536 rfl
  have e1 : (x.toNat : Int) / 256 % 256 = _ := byteAt_int x.toNat 1 256 rfl
  have e0 := byteAt_low x.toNat
  have hstr := run_str_row (P := Tryz.prog) _ 50 9 5 Tryz.underlying50 Tryz.underlying5 Tryz.underlying9 w.heap.size 4 [byteAt x.toNat 3, byteAt x.toNat 2, byteAt x.toNat 1, byteAt x.toNat 0]
    ((BlkIs.new w 5 #[byteV (byteAt x.toNat 3), byteV (byteAt x.toNat 2), byteV (byteAt x.toNat 1), byteV (byteAt x.toNat 0)]).bytes rfl)
  simp only [List.length_cons, List.length_nil, Nat.zero_add, Nat.reduceAdd, byteV] at hstr
  go_enter Tryz.func79, Tryz.ntmps79
  go_wp2
  go_ret
  exact ⟨rfl, (Below.refl _ _).alloc (Nat.le_refl _) _⟩

theorem sum4_ref (l : List UInt8) : beBytes 4 (crc l).toNat = sum4 l := rfl

theorem refSeal_any (s : ByteArray) (w : World) (hs : s.size ≤ 1000000000) :
    Calls Tryz.prog 32 #[.string s] w fun e w' => e = .returned (.string ⟨(sum4 s.data.toList ++ s.data.toList).toArray⟩) ∧ Below w.heap.size w w' := by
  have h4 : (sum4 s.data.toList).length ≤ 4 := by rw [sum4_length]; omega
  go_enter Tryz.func32, Tryz.ntmps32
  go_wp2_with fail
  refine (refSum_any s _ (by omega)).mono ?_
  rintro e w1 ⟨rfl, rfl⟩
  go_wp2_with fail
  refine (four_any _ _).mono ?_
  rintro e w1 ⟨rfl, hb1⟩
  rw [sum4_ref]
  go_wp2_with fail
  all_goals first
    | (exfalso; omega)
    | (go_ret; exact ⟨by rw [str_append]; rfl, hb1⟩)

theorem refOpen_any (s : ByteArray) (w : World) (hs : s.size ≤ 1000000000) :
    Calls Tryz.prog 40 #[.string s] w fun e w' => e = .returned (.tuple #[.string ⟨(openL s.data.toList).1.toArray⟩, .int .i64 (openL s.data.toList).2]) ∧ Below w.heap.size w w' := by
  have hsl := size_list s
  by_cases h4 : s.size < 4
  · have hv : openL s.data.toList = ([], 5) := by unfold openL; rw [if_pos (by omega)]
    have Hv := Lib.hid hv; clear hv hsl
    go_enter Tryz.func40, Tryz.ntmps40
    go_wp2_with fail
    go_ret2
    rw [Hv.out]
    exact ⟨rfl, Below.refl _ _⟩
  · have hv : openL s.data.toList = if s.data.toList.take 4 = sum4 (s.data.toList.drop 4) then (s.data.toList.drop 4, 0) else ([], 7) := by unfold openL; rw [if_neg (by omega)]
    have Hv := Lib.hid hv; clear hv hsl
    have h4' : (4 : Int) ≤ (s.size : Int) := by omega
    go_enter Tryz.func40, Tryz.ntmps40
    go_wp2_with fail
    go_region_with (first | (go_at_call 80; refine (refSum_any _ _ (by simp <;> omega)).mono ?_; rintro e w1 ⟨rfl, rfl⟩) | (go_at_call 79; refine (four_any _ _).mono ?_; rintro e w1 ⟨rfl, hb1⟩))
    go_wp2_with fail
    · have ht : (!beBytes 4 (crc (List.take (s.size - 4) (List.drop 4 s.data.toList))).toNat == (s.extract 0 4).toList) = true := by assumption
      rw [ByteArray.toList_eq, take_rest _ _ rfl, str_to, sum4_ref] at ht
      go_ret2
      rw [Hv.out, if_neg (by intro e; rw [e] at ht; simp at ht)]
      exact ⟨rfl, below_undrew hb1⟩
    · have ht : (!beBytes 4 (crc (List.take (s.size - 4) (List.drop 4 s.data.toList))).toNat == (s.extract 0 4).toList) = false := by assumption
      rw [ByteArray.toList_eq, take_rest _ _ rfl, str_to, sum4_ref] at ht
      go_ret2
      rw [Hv.out, if_pos (by have := (by simpa using ht : sum4 (List.drop 4 s.data.toList) = List.take 4 s.data.toList); exact this.symm)]
      exact ⟨by simp [str_from], below_undrew hb1⟩
end Go.Proofs.YtadhboioaacaeaaGreat
