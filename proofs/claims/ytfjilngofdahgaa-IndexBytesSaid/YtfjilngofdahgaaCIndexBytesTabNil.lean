/- chapter 12: a nil tab. -/
import Derived.Test.YtfjilngofdahgaaJIndexBytes3
import Derived.Test.YtfjilngofdahgaaJIndexBytes2

namespace Go.Proofs.Ytfjilngofdahgaa
open Go.RowKit
set_option maxHeartbeats 2000000
set_option maxRecDepth 100000
set_option linter.unusedVariables false

theorem addNil_any (v : Value) (w : World) : Calls Try.prog 15 #[.pointer none, v] w fun x w' => x = .returned (.int .i64 0) ∧ w = w' := by
  go_enter Try.func15, Try.ntmps15
  go_wp2_with fail
  go_ret
  exact ⟨rfl, rfl⟩
theorem cutNil_any (p : Int) (w : World) : Calls Try.prog 28 #[.pointer none, .int .i64 p] w fun x w' => x = .returned (.int .i64 0) ∧ Below w.heap.size w w' := by
  go_enter Try.func28, Try.ntmps28
  go_wp2_with fail
  go_ret
  exact ⟨rfl, (Below.refl _ _).alloc (Nat.le_refl _) _⟩
theorem lenNil_any (w : World) : Calls Try.prog 26 #[.pointer none] w fun x w' => x = .returned (.int .i64 0) ∧ w = w' := by
  go_enter Try.func26, Try.ntmps26
  go_wp2_with fail
  go_ret
  exact ⟨rfl, rfl⟩
theorem allNil_any (w : World) : Calls Try.prog 38 #[.pointer none] w fun x w' => x = .returned (.slice none 0 0) ∧ w = w' := by
  go_enter Try.func38, Try.ntmps38
  go_wp2_with fail
  go_ret
  exact ⟨rfl, rfl⟩
theorem findNil_any (h v : Int) (w : World) : Calls Try.prog 25 #[.pointer none, .int .i64 h, .int .i64 v] w fun x w' => ∃ A c, x = .returned (.slice A 0 c) ∧ Below w.heap.size w w' := by
  have hr : SlR w w.heap.size 3 none 0 (enVs []) := SlR.own (World.ownsRow_nil w w.heap.size 27 3)
  have hpl := places_any none 0 0 w.heap.size [] h v w hr (Nat.le_refl _) (by omega)
  clear hr
  go_enter Try.func25, Try.ntmps25
  go_wp2_with (first
    | (go_at_call 38; refine (allNil_any _).mono ?_; rintro x w1 ⟨rfl, rfl⟩)
    | (go_at_call 42; refine hpl.mono ?_; rintro x w2 ⟨u2, rfl, hown2, hb2⟩))
  go_ret
  obtain ⟨A2, c2, rfl, _⟩ := own_slice hown2
  exact ⟨A2, c2, rfl, hb2⟩
theorem rangeNil_any (h a b : Int) (w : World) : Calls Try.prog 22 #[.pointer none, .int .i64 h, .int .i64 a, .int .i64 b] w fun x w' => ∃ A c, x = .returned (.slice A 0 c) ∧ Below w.heap.size w w' := by
  have hr : SlR w w.heap.size 3 none 0 (enVs []) := SlR.own (World.ownsRow_nil w w.heap.size 27 3)
  have hpl := between_any none 0 0 w.heap.size [] h a b w hr (Nat.le_refl _) (by omega)
  clear hr
  go_enter Try.func22, Try.ntmps22
  go_wp2_with (first
    | (go_at_call 38; refine (allNil_any _).mono ?_; rintro x w1 ⟨rfl, rfl⟩)
    | (go_at_call 41; refine hpl.mono ?_; rintro x w2 ⟨u2, rfl, hown2, hb2⟩))
  go_ret
  obtain ⟨A2, c2, rfl, _⟩ := own_slice hown2
  exact ⟨A2, c2, rfl, hb2⟩
end Go.Proofs.Ytfjilngofdahgaa
