/- codec: numbers of 64 bits put and read. -/
import Derived.Test.YtfjilngofdahgaaCIndexBytesNum64Law
import Derived.Test.YtfjilngofdahgaaCIndexBytesOut
import Derived.Test.YtfjilngofdahgaaCIndexBytesIn

namespace Go.Proofs.Ytfjilngofdahgaa
open Go.RowKit
set_option maxHeartbeats 400000
set_option linter.unusedVariables false

theorem outU64_any (g base n : Nat) (bs : List UInt8) (w : World) (h : OutIs w base g bs 0) (hb : base ≤ w.heap.size) (hl : bs.length + 8 ≤ 1000000000) (hn : n < 18446744073709551616) :
    Calls Try.prog 90 #[.pointer (some ⟨g, 0, none⟩), .int .u64 (n : Int)] w fun e w' =>
      e = .returned (.pointer (some ⟨g, 0, none⟩)) ∧ OutIs w' base g (bs ++ beBytes 8 n) 0 ∧ Below base w w' := by
  have hh := high_any g base 8 n bs w h hb hl (by omega) hn
  obtain ⟨v, hB, hbg, hown⟩ := h
  have hc1 := hB.cell 1
  simp at hc1
  have Hh := Lib.hid hh
  clear hh hB hown
  go_enter Try.func90, Try.ntmps90
  go_wp2_with fail
  refine Hh.out.mono ?_
  rintro e w' ⟨rfl, ho, hbel⟩
  go_wp2_with fail
  go_ret
  exact ⟨rfl, ho, hbel⟩

theorem outI64_any (g base : Nat) (v : Int) (bs : List UInt8) (w : World) (h : OutIs w base g bs 0) (hb : base ≤ w.heap.size) (hl : bs.length + 8 ≤ 1000000000) :
    Calls Try.prog 73 #[.pointer (some ⟨g, 0, none⟩), .int .i64 v] w fun e w' =>
      e = .returned (.pointer (some ⟨g, 0, none⟩)) ∧ OutIs w' base g (bs ++ be64 v) 0 ∧ Below base w w' := by
  have hh := outU64_any g base (u64of v) bs w h hb hl (u64of_lt v)
  rw [← u64of_wrap] at hh
  have Hh := Lib.hid hh
  clear hh h
  go_enter Try.func73, Try.ntmps73
  go_wp2_with fail
  refine Hh.out.mono ?_
  rintro e w' ⟨rfl, ho, hbel⟩
  go_wp2_with fail
  go_ret
  exact ⟨rfl, ho, hbel⟩

theorem inU64_any (g base : Nat) (bs : List UInt8) (x : Int) (w : World) (h : InIs w base g bs x) (hl : bs.length ≤ 1000000000) :
    Calls Try.prog 94 #[.pointer (some ⟨g, 0, none⟩)] w fun e w' =>
      e = .returned (.int .u64 (inNum 8 bs x : Nat)) ∧ InIs w' base g (inTake 8 bs x).2.1 (inTake 8 bs x).2.2 ∧ Below base w w' := by
  have hle := inTake_length 8 bs x
  unfold inNum
  have hbw : base ≤ w.heap.size := Nat.le_trans h.1 (Nat.le_of_lt h.lt)
  have ht := take_any g base 8 bs x w h hl (by omega)
  generalize inTake 8 bs x = q at hle ht ⊢
  have Ht := Lib.hid ht; clear ht h
  go_enter Try.func94, Try.ntmps94
  go_wp2_with fail
  refine Ht.out.mono ?_
  rintro e w1 ⟨rfl, h1, hb1⟩
  have H1 := Lib.hid h1; clear h1
  go_wp2_with fail
  refine (low_any _ _ (by rw [size_mk]; omega)).mono ?_
  rintro e w2 ⟨rfl, hb2⟩
  go_wp2_with fail
  go_ret
  exact ⟨rfl, H1.out.below hb2 H1.out.lt, hb1.trans (hb2.mono (Nat.le_trans hbw hb1.size))⟩

theorem inI64_any (g base : Nat) (bs : List UInt8) (x : Int) (w : World) (h : InIs w base g bs x) (hl : bs.length ≤ 1000000000) :
    Calls Try.prog 93 #[.pointer (some ⟨g, 0, none⟩)] w fun e w' =>
      e = .returned (.int .i64 (i64L (inTake 8 bs x).1)) ∧ InIs w' base g (inTake 8 bs x).2.1 (inTake 8 bs x).2.2 ∧ Below base w w' := by
  have ht := inU64_any g base bs x w h hl
  unfold inNum at ht
  unfold i64L
  generalize inTake 8 bs x = q at ht ⊢
  have Ht := Lib.hid ht; clear ht h
  go_enter Try.func93, Try.ntmps93
  go_wp2_with fail
  refine Ht.out.mono ?_
  rintro e w1 ⟨rfl, h1, hb1⟩
  have H1 := Lib.hid h1; clear h1
  go_wp2_with fail
  go_ret
  exact ⟨rfl, H1.out, hb1⟩
end Go.Proofs.Ytfjilngofdahgaa
