/- chronicleref7: may a command be? (printed by mkrefck.py) -/
import Derived.Test.YtfpalamoaflilaaRefEv
import Derived.Test.YtfpalamoaflilaaEvSpare
namespace Go.Proofs.Ytfpalamoaflilaa
open Go.RowKit
set_option maxHeartbeats 2000000
set_option maxRecDepth 100000
set_option linter.unusedVariables false
attribute [local go_sem] run_store_flt

theorem refMeta7_any (a b d : Int) (w : World) : Calls Try.prog 28 #[.agg #[.int .i64 a, .int .i64 b, .int .i64 d]] w fun e w' => e = .returned (.bool (metaB a b d)) ∧ Below w.heap.size w w' := by
  have hb := (Below.refl w.heap.size w).alloc (Nat.le_refl _) (.cells #[.int .i64 a, .int .i64 b, .int .i64 d] 24)
  have Hb := Lib.hid hb; clear hb
  have hcs : ¬ 0 ≤ a ∨ (0 ≤ a ∧ ¬ a ≤ 1099511627776) ∨ ((0 ≤ a ∧ a ≤ 1099511627776) ∧ (¬ 0 ≤ b ∨ (0 ≤ b ∧ ¬ b ≤ 1099511627776) ∨ ((0 ≤ b ∧ b ≤ 1099511627776) ∧ (¬ 0 ≤ d ∨ (0 ≤ d ∧ ¬ d ≤ 1099511627776) ∨ (0 ≤ d ∧ d ≤ 1099511627776))))) := by omega
  have hv : metaB a b d = (decide (0 ≤ a ∧ a ≤ 1099511627776) && decide (0 ≤ b ∧ b ≤ 1099511627776) && decide (0 ≤ d ∧ d ≤ 1099511627776)) := rfl
  rcases hcs with r1 | ⟨r1, r2⟩ | ⟨⟨r1, r2⟩, r3 | ⟨r3, r4⟩ | ⟨⟨r3, r4⟩, r5 | ⟨r5, r6⟩ | ⟨r5, r6⟩⟩⟩
  all_goals
    (first
      | rw [show metaB a b d = false from by rw [hv]; simp; omega]
      | rw [show metaB a b d = true from by rw [hv]; simp; omega])
    clear hv
    go_enter Try.func28, Try.ntmps28
    go_wp2_with fail
    go_ret
    exact ⟨by simp_all, Hb.out⟩

theorem meta_neql (a b c : Int) (r : Bool) (h : r = !(decide (a = 0) && (decide (b = 0) && decide (c = 0)))) (w : World) : (binOp .neq 24 (.agg #[.int .i64 a, .int .i64 b, .int .i64 c]) (.agg #[.int .i64 0, .int .i64 0, .int .i64 0])).run Try.prog w = .ok (.bool r) w := by
  subst h
  go_simp
  by_cases h1 : a = 0 <;> by_cases h2 : b = 0 <;> by_cases h3 : c = 0 <;> simp [h1, h2, h3]

end Go.Proofs.Ytfpalamoaflilaa
