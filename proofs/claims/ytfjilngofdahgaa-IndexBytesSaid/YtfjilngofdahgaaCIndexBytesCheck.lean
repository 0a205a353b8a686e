/- package check: lay, Seal, Open. -/
import Derived.Test.YtfjilngofdahgaaCIndexBytesSum
import Derived.Test.YtfjilngofdahgaaCIndexBytesOut
import Derived.Test.YtfjilngofdahgaaCIndexBytesCrcOne
import Derived.Test.YtfjilngofdahgaaClone
import Derived.StillTailTactics

namespace Go.Proofs.Ytfjilngofdahgaa
open Go.RowKit
set_option maxHeartbeats 400000

theorem out_new (w : World) : OutIs (w.alloc (.cells #[.slice none 0 0, .int .i64 0] 80)) w.heap.size w.heap.size [] 0 :=
  ⟨.slice none 0 0, BlkIs.new w _ _, Nat.le_refl _, World.ownsRow_nil _ _ _ _⟩
theorem OutIs.alloc {w : World} {base g : Nat} {bs : List UInt8} {e : Int} (h : OutIs w base g bs e) (o : Obj) : OutIs (w.alloc o) base g bs e := by
  obtain ⟨v, hB, hb, ho⟩ := h
  exact ⟨v, hB.alloc o, hb, ho.alloc o⟩

theorem lay_any (s : ByteArray) (w : World) (hs : s.size ≤ 9223372036854775807) :
    Calls Try.prog 64 #[.string s] w fun e w' => e = .returned (.string ⟨(sum4 s.data.toList).toArray⟩) ∧ Below w.heap.size w w' := by
  go_enter Try.func64, Try.ntmps64
  go_wp2_with fail
  refine (sum_any (w.heap.size + 2) 1 1 _ [s] _ (by exact SlR.new _ (w.heap.size + 1) (by simp) _ #[.string s] rfl) (by omega) (by simpa using hs)).mono ?_
  rintro e w1 ⟨rfl, rfl⟩
  go_wp2_with fail
  have ho := (out_new w).alloc (.cells #[.string s] 9)
  refine (u32_ok w.heap.size w.heap.size (crc s.data.toList).toNat [] _ ho (by simp <;> omega) (by simp) (crc s.data.toList).isLt).mono ?_
  rintro e w2 ⟨rfl, ho2, hb2⟩
  clear ho
  have Ho2 := Lib.hid ho2; clear ho2
  go_wp2_with fail
  refine (done_ok w.heap.size w.heap.size _ _ Ho2.out).mono ?_
  rintro e w3 ⟨rfl, rfl⟩
  go_wp2
  go_ret
  exact ⟨rfl, (((Below.refl _ _).alloc (Nat.le_refl _) _).alloc (by simp <;> omega) _).trans hb2⟩

theorem seal_any (s : ByteArray) (w : World) (hs : s.size ≤ 1000000000) :
    Calls Try.prog 55 #[.string s] w fun e w' => e = .returned (.string ⟨(sum4 s.data.toList ++ s.data.toList).toArray⟩) ∧ Below w.heap.size w w' := by
  go_enter Try.func55, Try.ntmps55
  have h4 : (sum4 s.data.toList).length ≤ 4 := by rw [sum4_length]; omega
  go_wp2_with fail
  refine (lay_any s _ (by omega)).mono ?_
  rintro e w1 ⟨rfl, hb1⟩
  go_wp2_with fail
  all_goals first
    | (exfalso; omega)
    | (go_ret; exact ⟨by rw [str_append]; rfl, hb1⟩)

theorem open_any (s : ByteArray) (w : World) (hs : s.size ≤ 1000000000) :
    Calls Try.prog 47 #[.string s] w fun e w' => e = .returned (.tuple #[.string ⟨(openL s.data.toList).1.toArray⟩, .int .i64 (openL s.data.toList).2]) ∧ Below w.heap.size w w' := by
  have hsl := size_list s
  by_cases h4 : s.size < 4
  · have hv : openL s.data.toList = ([], 5) := by unfold openL; rw [if_pos (by omega)]
    have Hv := Lib.hid hv; clear hv hsl
    go_enter Try.func47, Try.ntmps47
    go_wp2_with fail
    go_ret2
    rw [Hv.out]
    exact ⟨rfl, Below.refl _ _⟩
  · have hv : openL s.data.toList = if s.data.toList.take 4 = sum4 (s.data.toList.drop 4) then (s.data.toList.drop 4, 0) else ([], 7) := by unfold openL; rw [if_neg (by omega)]
    have Hv := Lib.hid hv; clear hv hsl
    have h4' : (4 : Int) ≤ (s.size : Int) := by omega
    go_enter Try.func47, Try.ntmps47
    go_wp2_with fail
    go_region_with (go_at_call 64; refine (lay_any _ _ (by simp <;> omega)).mono ?_; rintro e w1 ⟨rfl, hb1⟩)
    go_wp2_with (go_at_call 65; refine (clone_in _ _ (by simp <;> omega)).mono ?_; rintro e w2 ⟨rfl, hb2⟩)
    · have ht : (!(s.extract 0 4).toList == sum4 (List.take (s.size - 4) (List.drop 4 s.data.toList))) = true := by assumption
      rw [ByteArray.toList_eq, take_rest _ _ rfl, str_to] at ht
      go_ret2
      rw [Hv.out, if_neg (by simpa using ht)]
      exact ⟨rfl, below_undrew hb1⟩
    · have ht : (!(s.extract 0 4).toList == sum4 (List.take (s.size - 4) (List.drop 4 s.data.toList))) = false := by assumption
      rw [ByteArray.toList_eq, take_rest _ _ rfl, str_to] at ht
      go_ret2
      rw [Hv.out, if_pos (by simpa using ht)]
      exact ⟨by simp [str_from], below_undrew (hb1.trans (hb2.mono hb1.size))⟩
end Go.Proofs.Ytfjilngofdahgaa
