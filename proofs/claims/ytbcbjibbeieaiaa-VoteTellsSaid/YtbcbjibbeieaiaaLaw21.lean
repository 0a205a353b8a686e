/- chapter 21: alive, walked. -/
import Derived.Test.YtbcbjibbeieaiaaVoteRead
import Derived.Test.YtbcbjibbeieaiaaMaj
namespace Go.Proofs.Ytbcbjibbeieaiaa
open Go.RowKit
set_option maxHeartbeats 4000000
set_option maxRecDepth 100000
set_option linter.unusedVariables false

theorem alive21_any (w : World) :
    Calls Try.prog 9 #[] w fun e w' => e = .returned (.bool true) ∧ Below w.heap.size w w' := by
  have hask : askL (0, -1) 1 2 0 0 0 0 = ((1, 2), true) := by decide
  have hput : putV (1, 2) = (frameL (ballotL (1, 2)), 0) := by unfold putV; rw [if_pos (by decide)]
  have hfl : (frameL (ballotL (1, 2))).length = 28 := by rw [frameL_length, ballotL_length]
  have hrd := readBytes_one (1, 2) (by decide) [120] (by unfold firstL; rw [if_pos (by simp)]; decide)
  have hm1 : majB 3 [0, 1] = true := by decide
  have hm2 : majB 3 [1, 1] = false := by decide
  generalize frameL (ballotL (1, 2)) = F at hput hfl hrd
  have hF : F.length ≤ 28 := by omega
  have hF2 : ((28 : Int) == (F.length : Int)) = true := by rw [hfl]; rfl
  have hx : (⟨F.toArray⟩ ++ ⟨#[120]⟩ : ByteArray).data.toList = F ++ [120] := by simp
  have Hask := Lib.hid hask; have Hput := Lib.hid hput; have Hrd := Lib.hid hrd; have Hx := Lib.hid hx; have Hm1 := Lib.hid hm1; have Hm2 := Lib.hid hm2
  clear hask hput hrd hfl hx hm1 hm2
  have heq : ∀ w : World, (binOp .eql 32 (.agg #[.int .i64 1, .int .i64 2]) (.agg #[.int .i64 1, .int .i64 2])).run Try.prog w = .ok (.bool true) w := fun _ => by kernel_rfl
  go_enter Try.func9, Try.ntmps9
  go_wp2_with fail
  refine (ask_any 0 (-1) 1 2 0 0 0 0 _).mono ?_
  rintro e w1 ⟨rfl, hb1⟩
  rw [Hask.out]
  go_wp2_with fail
  refine (putV_any 1 2 _).mono ?_
  rintro e w2 ⟨rfl, hb2⟩
  rw [Hput.out]
  have hB2 := (BlkIs.new w1 32 #[.int .i64 1, .int .i64 2]).below hb2 (by simp)
  have hbw2 : Below w.heap.size w w2 := (hb1.alloc hb1.size _).trans (hb2.mono (by have := hb1.size; simp <;> omega))
  have HB2 := Lib.hid hB2; clear hB2 hb2
  go_wp2_with fail
  refine (voteRead_any _ _ (by rw [ByteArray.size_append, size_mk]; show F.length + 1 ≤ _; omega)).mono ?_
  rintro e w3 ⟨rfl, hb3⟩
  rw [show readBytes (⟨F.toArray⟩ ++ ⟨#[120]⟩ : ByteArray).data.toList = ((1, 2), 28) from by rw [Hx.out]; exact Hrd.out]
  have hB3 := HB2.out.below hb3 HB2.out.lt
  have hbw3 := hbw2.trans (hb3.mono hbw2.size)
  have hlt : w1.heap.size < w3.heap.size := hB3.lt
  have hb13 : Below w1.heap.size w1 w1 := Below.refl _ _
  have hc0 := hB3.cell 0
  have hc1 := hB3.cell 1
  have hbc := hbw3.alloc hbw3.size (.cells #[.int .i64 1, .int .i64 2] 32)
  simp at hc0 hc1
  clear hB3
  have tok1 : True := trivial
  go_wp2_with (first
    | (have _t := tok1; clear tok1 _t; go_at_call 8; refine (maj_any _ 2 2 _ 3 [0, 1] _ (by exact SlR.new _ _ (by simp) _ #[.int .i64 0, .int .i64 1] rfl) (by simp) (by omega) (by decide) (by omega)).mono ?_; rintro e w4 ⟨rfl, hb4⟩; rw [Hm1.out])
    | (go_at_call 8; refine (maj_any _ 2 2 _ 3 [1, 1] _ (by exact SlR.new _ _ (by simp) _ #[.int .i64 1, .int .i64 1] rfl) (by simp) (by omega) (by decide) (by omega)).mono ?_; rintro e w5 ⟨rfl, hb5⟩; rw [Hm2.out]))
  go_ret
  have h4 := (hbc.alloc (by have := hbc.size; omega) _).trans (hb4.mono (by have := hbc.size; simp at this; simp <;> omega))
  exact ⟨rfl, (h4.alloc h4.size _).trans (hb5.mono (by have := h4.size; simp <;> omega))⟩
end Go.Proofs.Ytbcbjibbeieaiaa
