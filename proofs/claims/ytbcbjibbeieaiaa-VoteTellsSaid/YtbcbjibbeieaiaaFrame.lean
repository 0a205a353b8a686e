/- package frame, walked. -/
import Derived.Test.YtbcbjibbeieaiaaRows
import Derived.Test.YtbcbjibbeieaiaaSum
import Derived.Test.YtbcbjibbeieaiaaOut
import Derived.Test.YtbcbjibbeieaiaaIn
namespace Go.Proofs.Ytbcbjibbeieaiaa
open Go.RowKit
set_option maxHeartbeats 400000
set_option linter.unusedVariables false

theorem out_new' (w : World) : OutIs (w.alloc (.cells #[.slice none 0 0, .int .i64 0] 62)) w.heap.size w.heap.size [] 0 :=
  ⟨.slice none 0 0, BlkIs.new w _ _, Nat.le_refl _, World.ownsRow_nil _ _ _ _⟩

theorem flay_any (n : Nat) (w : World) (hn : n < 4294967296) :
    Calls Try.prog 40 #[.int .i64 (n : Int)] w fun e w' => e = .returned (.string ⟨(beBytes 4 n).toArray⟩) ∧ Below w.heap.size w w' := by
  go_enter Try.func40, Try.ntmps40
  go_wp2_with fail
  refine (u32_ok w.heap.size w.heap.size n [] _ (out_new' w) (by simp <;> omega) (by simp) hn).mono ?_
  rintro e w2 ⟨rfl, ho2, hb2⟩
  have Ho2 := Lib.hid ho2; clear ho2
  go_wp2_with fail
  refine (done_ok w.heap.size w.heap.size _ _ Ho2.out).mono ?_
  rintro e w3 ⟨rfl, rfl⟩
  go_wp2
  go_ret
  exact ⟨rfl, ((Below.refl _ _).alloc (Nat.le_refl _) _).trans hb2⟩

theorem below_unalloc {w w1 : World} {o : Obj} (h : Below (w.alloc o).heap.size (w.alloc o) w1) : Below w.heap.size w w1 :=
  ((Below.refl _ _).alloc (Nat.le_refl _) o).trans (h.mono (by simp))

theorem crc_wrap (l : List UInt8) : IntKind.i64.wrap ((crc l).toNat : Int) = ((crc l).toNat : Int) := IntWalk.i64_in _ (by have := crc_lt l; omega)

/-- what Put tells -/
def putL (b : List UInt8) : List UInt8 × Int := if 4000 < b.length then ([], 2) else (frameL b, 0)

theorem putL_ok' {b : List UInt8} (h : b.length ≤ 4000) : putL b = (frameL b, 0) := by unfold putL; rw [if_neg (by omega)]
theorem fput_any (s : ByteArray) (w : World) (hs : s.size ≤ 1000000000) :
    Calls Try.prog 29 #[.string s] w fun e w' => e = .returned (.tuple #[.string ⟨(putL s.data.toList).1.toArray⟩, .int .i64 (putL s.data.toList).2]) ∧ Below w.heap.size w w' := by
  have hsl := size_list s
  by_cases h4 : s.size ≤ 4000
  · have hv : putL s.data.toList = (frameL s.data.toList, 0) := by unfold putL; rw [if_neg (by omega)]
    rw [hv]
    have hlen : (beBytes 4 s.size).length = 4 := beBytes_length _ _
    have hlen2 : (fSum s.data.toList).length = 4 := fSum_length _
    have hfr : frameL s.data.toList = beBytes 4 s.size ++ (fSum s.data.toList ++ (s.data.toList ++ beBytes 4 s.size)) := by rw [hsl]; rfl
    have hfs : beBytes 4 (crc (beBytes 4 s.size ++ s.data.toList)).toNat = fSum s.data.toList := by rw [hsl]; rfl
    have Hfr := Lib.hid hfr; have Hfs := Lib.hid hfs; have Hlen := Lib.hid hlen; have Hlen2 := Lib.hid hlen2
    clear hsl hv hfr hfs hlen hlen2
    go_enter Try.func29, Try.ntmps29
    go_wp2_with fail
    refine (flay_any s.size _ (by omega)).mono ?_
    rintro e w1 ⟨rfl, hb1⟩
    generalize hn : beBytes 4 s.size = n at Hlen Hfr Hfs ⊢
    have Hn := Lib.hid hn; clear hn
    go_wp2_with fail
    refine (sum_any (w1.heap.size + 1) 2 2 _ [⟨n.toArray⟩, s] _ (by exact SlR.new _ _ rfl _ #[.string ⟨n.toArray⟩, .string s] rfl) (by omega) (by
      intro t ht; simp at ht
      rcases ht with rfl | rfl
      · rw [size_mk, Hlen.out]; omega
      · omega)).mono ?_
    rintro e w2 ⟨rfl, rfl⟩
    rw [show (List.map (fun x : ByteArray => x.data.toList) [⟨n.toArray⟩, s]).flatten = n ++ s.data.toList from by simp]
    have hcr := (crc (n ++ s.data.toList)).isLt
    go_wp2_with fail
    refine (flay_any (crc (n ++ s.data.toList)).toNat _ (by omega)).mono ?_
    rintro e w2 ⟨rfl, hb2⟩
    rw [Hfs.out]
    generalize fSum s.data.toList = q at Hlen2 Hfr ⊢
    have hln : n.length ≤ 4 := by rw [Hlen.out]; omega
    have hlq : q.length ≤ 4 := by rw [Hlen2.out]; omega
    go_wp2_with fail
    go_ret2
    refine ⟨?_, hb1.trans ((below_unalloc hb2).mono hb1.size)⟩
    have e : (⟨n.toArray⟩ ++ ⟨q.toArray⟩ ++ s ++ ⟨n.toArray⟩ : ByteArray) = ⟨(frameL s.data.toList).toArray⟩ := by
      rw [Hfr.out]; apply str_ext; simp
    rw [e]
    rfl
  · have hv : putL s.data.toList = ([], 2) := by unfold putL; rw [if_pos (by omega)]
    rw [hv]
    clear hv hsl
    go_enter Try.func29, Try.ntmps29
    go_wp2_with fail
    go_ret2
    exact ⟨rfl, Below.refl _ _⟩

theorem front_any (s : ByteArray) (w : World) (h4 : 4 ≤ s.size) :
    Calls Try.prog 53 #[.string s] w fun e w' => e = .returned (.string ⟨(s.data.toList.take 4).toArray⟩) ∧ w = w' := by
  have h4' : (4 : Int) ≤ (s.size : Int) := by omega
  go_enter Try.func53, Try.ntmps53
  go_wp2
  go_ret
  exact ⟨by rw [← str_to]; rfl, rfl⟩
theorem back_any (s : ByteArray) (w : World) (h4 : 4 ≤ s.size) (hs : s.size ≤ 1000000000) :
    Calls Try.prog 55 #[.string s] w fun e w' => e = .returned (.string ⟨(backL s.data.toList).toArray⟩) ∧ w = w' := by
  have h4' : (4 : Int) ≤ (s.size : Int) := by omega
  go_enter Try.func55, Try.ntmps55
  go_wp2
  go_ret
  refine ⟨?_, rfl⟩
  unfold backL
  rw [← size_list, ← str_from]
  rfl
theorem head_any (s : ByteArray) (n : Nat) (m : Int) (w : World) (h4 : n ≤ s.size) (hs : s.size ≤ 1000000000) (hm : m = (n : Int)) :
    Calls Try.prog 54 #[.string s, .int .i64 m] w fun e w' => e = .returned (.string ⟨(s.data.toList.take n).toArray⟩) ∧ w = w' := by
  subst hm
  go_enter Try.func54, Try.ntmps54
  go_wp2
  go_ret
  exact ⟨by rw [← str_to]; rfl, rfl⟩
theorem flength_any (s : ByteArray) (w : World) (h4 : s.size = 4) :
    Calls Try.prog 63 #[.string s] w fun e w' => e = .returned (.tuple #[.int .i64 (beVal s.data.toList : Nat), .bool (decide (beVal s.data.toList ≤ 4000))]) ∧ Below w.heap.size w w' := by
  have hsl : s.data.toList.length = 4 := by rw [← size_list]; exact h4
  have hin : inTake 4 s.data.toList 0 = (s.data.toList, [], 0) := by rw [inTake_ok (by omega), List.take_of_length_le (by omega), List.drop_of_length_le (by omega)]
  have Hin := Lib.hid hin; have Hsl := Lib.hid hsl
  have h4' : s.size ≤ 4 := by omega
  clear hin hsl h4
  go_enter Try.func63, Try.ntmps63
  go_wp2_with fail
  refine (newIn_any s _ (by omega)).mono ?_
  rintro e w1 ⟨g, rfl, h1, hb1⟩
  have H1 := Lib.hid h1; clear h1
  go_wp2_with fail
  refine (inU32_any g _ _ 0 _ H1.out (by rw [Hsl.out]; omega)).mono ?_
  rintro e w2 ⟨rfl, h2, hb2⟩
  have hnum : inNum 4 s.data.toList 0 = beVal s.data.toList := by unfold inNum; rw [Hin.out]
  rw [hnum]
  clear h2 hnum
  have hvl := beVal_lt s.data.toList
  rw [Hsl.out] at hvl
  go_wp2_with fail
  go_ret2
  refine ⟨?_, hb1.trans (hb2.mono (Nat.le_refl _))⟩
  have e : decide ((beVal s.data.toList : Int) ≤ 4000) = decide (beVal s.data.toList ≤ 4000) := by rw [decide_eq_decide]; omega
  rw [← e]
  rfl
end Go.Proofs.Ytbcbjibbeieaiaa
