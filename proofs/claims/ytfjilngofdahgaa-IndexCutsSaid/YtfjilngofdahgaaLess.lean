/- memtab.Less. -/
import Derived.Test.YtfjilngofdahgaaTabCmp
namespace Go.Proofs.Ytfjilngofdahgaa
open Go.RowKit
set_option maxHeartbeats 2000000
set_option maxRecDepth 100000
set_option linter.unusedVariables false

theorem less_any (a b : En) (w : World) : Calls Try.prog 72 #[enA a, enA b] w fun x w' => x = .returned (.bool (ltE a b)) ∧ Below w.heap.size w w' := by
  have hc := fun w => compare_any a b w
  have hlt := cmpE_lt a b
  have Hlt := Lib.hid hlt
  clear hlt
  generalize ltE a b = q at Hlt ⊢
  generalize cmpE a b = z at hc Hlt
  obtain ⟨a0, a1, a2⟩ := a
  obtain ⟨b0, b1, b2⟩ := b
  unfold enA at hc ⊢
  dsimp only at hc ⊢
  go_enter Try.func72, Try.ntmps72
  go_wp2_with fail
  have hb0 := ((Below.refl w.heap.size w).alloc (Nat.le_refl _) (.cells #[.int .i64 a0, .int .i64 a1, .int .i64 a2] 27)).alloc (by simp) (.cells #[.int .i64 b0, .int .i64 b1, .int .i64 b2] 27)
  refine (hc _).mono ?_
  rintro x w1 ⟨rfl, hb1⟩
  have hb2 := hb0.trans (hb1.mono hb0.size)
  go_wp2_with fail
  go_ret
  exact ⟨by rw [← Hlt.out]; rfl, hb2⟩
end Go.Proofs.Ytfjilngofdahgaa
