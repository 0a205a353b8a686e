/- chapter 20: WireNone, walked. -/
import Derived.Test.YtadhboioaacaeaaLaw20
namespace Go.Proofs.Ytadhboioaacaeaa
open Go.RowKit
set_option maxHeartbeats 2000000
set_option maxRecDepth 100000
set_option linter.unusedVariables false

theorem wireNone_any (k : Int) (W : World) : Calls Try.prog 6 #[.int .i64 k] W fun e w' => e = .returned (.bool true) ∧ Below W.heap.size W w' := by
  go_enter Try.func6, Try.ntmps6
  go_wp2_with fail
  refine (cut_nil 1 2 true _).mono ?_
  rintro e w1 ⟨rfl, rfl⟩
  go_wp2_with fail
  refine (take_nil k _).mono ?_
  unfold pkA
  rintro e w2 ⟨rfl, hb2⟩
  have hb2 := below_new hb2 (Nat.le_refl _) (.cells #[.int .i64 0, .int .i64 0, .string ByteArray.empty] 28)
  have Hb2 := Lib.hid hb2; clear hb2
  go_wp2_with fail
  refine (peek_nil k _).mono ?_
  unfold pkA
  rintro e w3 ⟨rfl, hb3⟩
  have hb3 := below_new (Hb2.out.trans (hb3.mono Hb2.out.size)) (Nat.le_refl _) (.cells #[.int .i64 0, .int .i64 0, .string ByteArray.empty] 28)
  have Hb3 := Lib.hid hb3; clear hb3
  go_wp2_with fail
  refine (alive20_any _).mono ?_
  rintro e w4 ⟨rfl, hb4⟩
  have hb4 := below_new (Hb3.out.trans (hb4.mono Hb3.out.size)) (Nat.le_refl _) (.cells #[.int .i64 0, .int .i64 0, .string ByteArray.empty] 28)
  have Hb4 := Lib.hid hb4; clear hb4
  go_wp2_with fail
  refine (send_nil _ _ _ _).mono ?_
  rintro e w5 ⟨rfl, rfl⟩
  go_wp2_with fail
  refine (len_nil _).mono ?_
  rintro e w5 ⟨rfl, rfl⟩
  go_wp2_with fail
  refine (clear_nil _).mono ?_
  rintro e w5 ⟨rfl, rfl⟩
  go_wp2_with fail
  refine (drop_nil k _).mono ?_
  rintro e w6 ⟨rfl, hb6⟩
  have Hb6 := Lib.hid (Hb4.out.trans (hb6.mono Hb4.out.size)); clear hb6
  go_wp2_with fail
  refine (double_nil k _).mono ?_
  rintro e w7 ⟨rfl, rfl⟩
  go_wp2_with fail
  refine (swap_nil k k _).mono ?_
  rintro e w7 ⟨rfl, rfl⟩
  go_wp2_with fail
  go_ret
  exact ⟨rfl, Hb6.out⟩
end Go.Proofs.Ytadhboioaacaeaa
