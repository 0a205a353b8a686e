/- package event: the command that marks a time, checked, laid and got back. -/
import Derived.Test.YtnnnilpgnjndlaaJShipBytes4
import Derived.Test.YtnnnilpgnjndlaaCShipBytesNum64
import Derived.Deep.RegionHeld3

namespace Go.Proofs.Ytnnnilpgnjndlaa
open Go.RowKit
set_option maxHeartbeats 4000000
set_option maxRecDepth 100000
set_option linter.unusedVariables false

theorem out_new0 (w : World) : OutIs (w.alloc (.cells #[.slice none 0 0, .int .i64 0] 61)) w.heap.size w.heap.size [] 0 :=
  ⟨_, BlkIs.new _ _ _, Nat.le_refl _, World.ownsRow_nil _ _ _ _⟩

theorem within_ok (n : Int) (w : World) (h0 : 0 ≤ n) (h1 : n ≤ 1099511627776) :
    Calls Try.prog 64 #[.int .i64 n] w fun e w' => e = .returned (.bool true) ∧ w = w' := by
  go_enter Try.func64, Try.ntmps64
  go_wp2
  go_ret
  exact ⟨rfl, rfl⟩

theorem spare_mark (w : World) :
    Calls Try.prog 69 #[.agg #[.int .i64 4, .int .i64 3, .string ByteArray.empty, .int .i64 0, .slice none 0 0, .int .i64 0, .int .i64 0, .int .i64 0]] w fun e w' => e = .returned (.bool false) ∧ Below w.heap.size w w' := by
  go_enter Try.func69, Try.ntmps69
  go_wp2
  go_ret
  exact ⟨rfl, (Below.refl _ _).alloc (Nat.le_refl _) _⟩

theorem check_mark (w : World) :
    Calls Try.prog 40 #[.agg #[.int .i64 4, .int .i64 3, .string ByteArray.empty, .int .i64 0, .slice none 0 0, .int .i64 0, .int .i64 0, .int .i64 0]] w fun e w' => e = .returned (.int .i64 0) ∧ Below w.heap.size w w' := by
  go_enter Try.func40, Try.ntmps40
  go_wp2_with fail
  refine (within_ok 3 _ (by omega) (by omega)).mono ?_
  rintro e w1 ⟨rfl, rfl⟩
  go_wp2_with fail
  refine (spare_mark _).mono ?_
  rintro e w1 ⟨rfl, hb1⟩
  go_wp2_with fail
  go_ret
  exact ⟨rfl, ((Below.refl _ _).alloc (Nat.le_refl _) _).trans (hb1.mono (by simp))⟩
end Go.Proofs.Ytnnnilpgnjndlaa
