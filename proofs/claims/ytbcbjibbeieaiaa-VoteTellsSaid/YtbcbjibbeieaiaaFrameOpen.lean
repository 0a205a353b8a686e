/- package frame: open, walked. -/
import Derived.Test.YtbcbjibbeieaiaaFrame
namespace Go.Proofs.Ytbcbjibbeieaiaa
open Go.RowKit
set_option maxHeartbeats 400000
set_option linter.unusedVariables false

theorem fopen_any (s : ByteArray) (w : World) (h4 : 12 ≤ s.size) (hs : s.size ≤ 1000000000) :
    Calls Try.prog 64 #[.string s] w fun e w' => e = .returned (.tuple #[.string ⟨(fOpen s.data.toList).1.toArray⟩, .int .i64 (fOpen s.data.toList).2]) ∧ Below w.heap.size w w' := by
  have h4' : (12 : Int) ≤ (s.size : Int) := by omega
  have hsl := size_list s
  have w1 : IntKind.i64.wrap ((s.size : Int) - 4) = (s.size : Int) - 4 := IntWalk.i64_in _ (by omega)
  have w2 : ((s.size : Int) - 4).toNat = s.size - 4 := by omega
  have w3 : (8 : Int) ≤ (s.size : Int) - 4 := by omega
  have hv : fOpen s.data.toList = if (s.data.toList.drop 4).take 4 = beBytes 4 (crc (s.data.toList.take 4 ++ (s.data.toList.drop 8).take (s.size - 12))).toNat then ((s.data.toList.drop 8).take (s.size - 12), 0) else ([], 7) := by
    unfold fOpen; rw [← hsl]
  have Hv := Lib.hid hv; clear hv
  have hx1 : s.extract 8 (s.size - 4) = ⟨((s.data.toList.drop 8).take (s.size - 12)).toArray⟩ := by rw [str_cut, show s.size - 4 - 8 = s.size - 12 from by omega]
  have hx2 : s.extract 4 8 = ⟨((s.data.toList.drop 4).take 4).toArray⟩ := str_cut _ _ _
  have hx3 : s.extract 0 4 = ⟨(s.data.toList.take 4).toArray⟩ := str_to _ _
  have Hx1 := Lib.hid hx1; have Hx2 := Lib.hid hx2; have Hx3 := Lib.hid hx3
  clear hx1 hx2 hx3 hsl
  go_enter Try.func64, Try.ntmps64
  go_wp2_with fail
  go_quiet (fail)
  rw [Hx1.out, Hx3.out]
  generalize hbd : (s.data.toList.drop 8).take (s.size - 12) = bd at Hv Hx1 ⊢
  generalize hnn : s.data.toList.take 4 = nn at Hv Hx3 ⊢
  have Hbd := Lib.hid hbd; have Hnn := Lib.hid hnn
  have hbl : bd.length ≤ 1000000000 := by rw [← hbd, List.length_take, List.length_drop, ← size_list]; omega
  have hnl : nn.length ≤ 4 := by rw [← hnn, List.length_take]; omega
  clear hbd hnn
  go_wp2_with fail
  go_region_with (first
    | (go_at_call 41; refine (sum_any (w.heap.size + 1) 2 2 _ [⟨nn.toArray⟩, ⟨bd.toArray⟩] _ (by exact SlR.new _ _ (by simp) _ #[.string ⟨nn.toArray⟩, .string ⟨bd.toArray⟩] rfl) (by omega) (by intro t ht; simp at ht; rcases ht with rfl | rfl <;> (rw [size_mk]; omega))).mono ?_; rintro e w4 ⟨rfl, rfl⟩; rw [show (List.map (fun x : ByteArray => x.data.toList) [⟨nn.toArray⟩, ⟨bd.toArray⟩]).flatten = nn ++ bd from by simp])
    | (go_at_call 40; (try rw [crc_wrap]); refine (flay_any (crc (nn ++ bd)).toNat _ (crc_lt _)).mono ?_; rintro e w5 ⟨rfl, hb5⟩))
  all_goals
    have hb := below_undrewN (below_unalloc hb5)
    rw [Hx2.out]
    generalize (s.data.toList.drop 4).take 4 = q at Hv ⊢
    go_wp2_with (go_at_call 56; refine (clone_in _ _ (by rw [size_mk]; omega)).mono ?_; rintro e w6 ⟨rfl, hb6⟩)
    · have ht : (!(ByteArray.mk q.toArray).toList == beBytes 4 (crc (nn ++ bd)).toNat) = true := by assumption
      rw [ByteArray.toList_eq] at ht
      go_ret2
      rw [Hv.out, if_neg (by simpa using ht)]
      exact ⟨rfl, hb⟩
    · have ht : (!(ByteArray.mk q.toArray).toList == beBytes 4 (crc (nn ++ bd)).toNat) = false := by assumption
      rw [ByteArray.toList_eq] at ht
      go_ret2
      rw [Hv.out, if_pos (by simpa using ht)]
      exact ⟨rfl, hb.trans (hb6.mono hb.size)⟩
end Go.Proofs.Ytbcbjibbeieaiaa
