/- the document's own sums: four, Seal, Open. -/
import Derived.Test.YtfjilngofdahgaaCIndexBytesRefSum

namespace Go.Proofs.Ytfjilngofdahgaa
open Go.RowKit
set_option maxHeartbeats 400000
set_option linter.unusedVariables false

theorem byteAt_int (n i : Nat) (d : Nat) (hd : 256 ^ i = d) : (n : Int) / (d : Int) % 256 = ((byteAt n i).toNat : Int) := by
  rw [byteAt_toNat, hd, ← Int.natCast_ediv]; rfl
theorem byteAt_top (n i : Nat) (d : Nat) (hd : 256 ^ i = d) (hn : n < 256 * d) : (n : Int) / (d : Int) = ((byteAt n i).toNat : Int) := by
  rw [byteAt_toNat, hd, ← Int.natCast_ediv, Nat.mod_eq_of_lt (Nat.div_lt_of_lt_mul (by rw [Nat.mul_comm]; exact hn))]
theorem byteAt_low (n : Nat) : (n : Int) % 256 = ((byteAt n 0).toNat : Int) := by
  rw [byteAt_toNat, Nat.pow_zero, Nat.div_one]; rfl

theorem four_any (x : BitVec 32) (w : World) :
    Calls Try.prog 45 #[.int .u32 (x.toNat : Int)] w fun e w' => e = .returned (.string ⟨(beBytes 4 x.toNat).toArray⟩) ∧ Below w.heap.size w w' := by
  have hx := x.isLt
  have e3 : (x.toNat : Int) / 16777216 = _ := byteAt_top x.toNat 3 16777216 rfl (by omega)
  have e2 : (x.toNat : Int) / 65536 % 256 = _ := byteAt_int x.toNat 2 65536 rfl
  have e1 : (x.toNat : Int) / 256 % 256 = _ := byteAt_int x.toNat 1 256 rfl
  have e0 := byteAt_low x.toNat
  have hstr := run_str_row (P := Try.prog) _ 78 9 5 Try.underlying78 Try.underlying5 Try.underlying9 w.heap.size 4 [byteAt x.toNat 3, byteAt x.toNat 2, byteAt x.toNat 1, byteAt x.toNat 0]
    ((BlkIs.new w 5 #[byteV (byteAt x.toNat 3), byteV (byteAt x.toNat 2), byteV (byteAt x.toNat 1), byteV (byteAt x.toNat 0)]).bytes rfl)
  simp only [List.length_cons, List.length_nil, Nat.zero_add, Nat.reduceAdd, byteV] at hstr
  go_enter Try.func45, Try.ntmps45
  go_wp2
  go_ret
  exact ⟨rfl, (Below.refl _ _).alloc (Nat.le_refl _) _⟩

theorem sum4_ref (l : List UInt8) : beBytes 4 (crc l).toNat = sum4 l := rfl

theorem refSeal_any (s : ByteArray) (w : World) (hs : s.size ≤ 1000000000) :
    Calls Try.prog 29 #[.string s] w fun e w' => e = .returned (.string ⟨(sum4 s.data.toList ++ s.data.toList).toArray⟩) ∧ Below w.heap.size w w' := by
  have h4 : (sum4 s.data.toList).length ≤ 4 := by rw [sum4_length]; omega
  go_enter Try.func29, Try.ntmps29
  go_wp2_with fail
  refine (refSum_any s _ (by omega)).mono ?_
  rintro e w1 ⟨rfl, rfl⟩
  go_wp2_with fail
  refine (four_any _ _).mono ?_
  rintro e w1 ⟨rfl, hb1⟩
  rw [sum4_ref]
  go_wp2_with fail
  all_goals first
    | (exfalso; omega)
    | (go_ret; exact ⟨by rw [str_append]; rfl, hb1⟩)

end Go.Proofs.Ytfjilngofdahgaa
