/- chapter 21: VoteLogs, walked. -/
import Derived.Test.YtbcbjibbeieaiaaLaw21
import Derived.Test.YtbcbjibbeieaiaaEql
namespace Go.Proofs.Ytbcbjibbeieaiaa
open Go.RowKit
set_option maxHeartbeats 8000000
set_option maxRecDepth 100000
set_option linter.unusedVariables false

theorem newer_total (a0 a1 b0 b1 : Int) : newerB a0 a1 b0 b1 = true ∨ newerB b0 b1 a0 a1 = true := by unfold newerB; rw [decide_eq_true_iff, decide_eq_true_iff]; omega
theorem newer_anti (a0 a1 b0 b1 : Int) (h : newerB a0 a1 b0 b1 = true) (h2 : newerB b0 b1 a0 a1 = true) : a0 = b0 ∧ a1 = b1 := by unfold newerB at h h2; rw [decide_eq_true_iff] at h h2; omega
theorem newer_trans (a0 a1 b0 b1 c0 c1 : Int) (h : newerB a0 a1 b0 b1 = true) (h2 : newerB b0 b1 c0 c1 = true) : newerB a0 a1 c0 c1 = true := by unfold newerB at h h2 ⊢; rw [decide_eq_true_iff] at h h2 ⊢; omega

theorem voteLogs_any (a0 a1 b0 b1 c0 c1 : Int) (w : World) :
    Calls Try.prog 4 #[.agg #[.int .i64 a0, .int .i64 a1], .agg #[.int .i64 b0, .int .i64 b1], .agg #[.int .i64 c0, .int .i64 c1]] w fun e w' => e = .returned (.bool true) ∧ Below w.heap.size w w' := by
  have hx := newer_any a0 a1 b0 b1
  have hy := newer_any b0 b1 a0 a1
  have hz := newer_any b0 b1 c0 c1
  have hq := newer_any a0 a1 c0 c1
  have heq : ∀ w : World, (binOp .eql 26 (.agg #[.int .i64 a0, .int .i64 a1]) (.agg #[.int .i64 b0, .int .i64 b1])).run Try.prog w = .ok (.bool (a0 == b0 && a1 == b1)) w := fun w => run_eql_arr2 w _ _ _ _
  have h1 := newer_total a0 a1 b0 b1
  have h2 := newer_anti a0 a1 b0 b1
  have h3 := newer_trans a0 a1 b0 b1 c0 c1
  generalize newerB a0 a1 b0 b1 = x at hx h1 h2 h3
  generalize newerB b0 b1 a0 a1 = y at hy h1 h2
  generalize newerB b0 b1 c0 c1 = z at hz h3
  generalize newerB a0 a1 c0 c1 = q at hq h3
  cases x with
  | true =>
    cases y with
    | true =>
      cases z with
      | true =>
        obtain rfl := h3 rfl rfl
        clear h1 h3
        obtain ⟨e1, e2⟩ := h2 rfl rfl
        subst e1 e2
        have heq2 : ∀ w : World, (binOp .eql 26 (.agg #[.int .i64 a0, .int .i64 a1]) (.agg #[.int .i64 a0, .int .i64 a1])).run Try.prog w = .ok (.bool true) w := fun w => by rw [run_eql_arr2]; simp
        clear heq
        clear h2
        have Hx := Lib.hid hx; have Hy := Lib.hid hy; have Hz := Lib.hid hz; have Hq := Lib.hid hq
        clear hx hy hz hq
        go_enter Try.func4, Try.ntmps4
        go_wp2_with fail
        refine (Hx.out _).mono ?_
        rintro e w1 ⟨rfl, rfl⟩
        go_wp2_with fail
        refine (Hy.out _).mono ?_
        rintro e w1 ⟨rfl, rfl⟩
        go_wp2_with fail
        refine (Hz.out _).mono ?_
        rintro e w1 ⟨rfl, rfl⟩
        go_wp2_with fail
        refine (alive21_any _).mono ?_
        rintro e w1 ⟨rfl, hb1⟩
        have hbw : Below w.heap.size w w1 := ((((Below.refl _ _).alloc (Nat.le_refl _) _).alloc (by simp) _).alloc (by simp <;> omega) _).trans (hb1.mono (by simp <;> omega))
        have hA := (((BlkIs.new w 26 #[.int .i64 a0, .int .i64 a1]).alloc (.cells #[.int .i64 a0, .int .i64 a1] 26)).alloc (.cells #[.int .i64 c0, .int .i64 c1] 26)).below hb1 (by simp <;> omega)
        have hB := ((BlkIs.new (w.alloc (.cells #[.int .i64 a0, .int .i64 a1] 26)) 26 #[.int .i64 a0, .int .i64 a1]).alloc (.cells #[.int .i64 c0, .int .i64 c1] 26)).below hb1 (by simp <;> omega)
        have hC := (BlkIs.new ((w.alloc (.cells #[.int .i64 a0, .int .i64 a1] 26)).alloc (.cells #[.int .i64 a0, .int .i64 a1] 26)) 26 #[.int .i64 c0, .int .i64 c1]).below hb1 (by simp <;> omega)
        simp at hB hC
        have ha0 := hA.cell 0
        have ha1 := hA.cell 1
        have hb0' := hB.cell 0
        have hb1' := hB.cell 1
        have hc0 := hC.cell 0
        have hc1 := hC.cell 1
        simp at ha0 ha1 hb0' hb1' hc0 hc1
        clear hA hB hC hb1
        go_wp2_with (go_at_call 10; refine (Hq.out _).mono ?_; rintro e w2 ⟨rfl, rfl⟩)
        go_ret
        exact ⟨rfl, hbw⟩
      | false =>
        clear h1 h3
        obtain ⟨e1, e2⟩ := h2 rfl rfl
        subst e1 e2
        have heq2 : ∀ w : World, (binOp .eql 26 (.agg #[.int .i64 a0, .int .i64 a1]) (.agg #[.int .i64 a0, .int .i64 a1])).run Try.prog w = .ok (.bool true) w := fun w => by rw [run_eql_arr2]; simp
        clear heq
        clear h2
        have Hx := Lib.hid hx; have Hy := Lib.hid hy; have Hz := Lib.hid hz; have Hq := Lib.hid hq
        clear hx hy hz hq
        go_enter Try.func4, Try.ntmps4
        go_wp2_with fail
        refine (Hx.out _).mono ?_
        rintro e w1 ⟨rfl, rfl⟩
        go_wp2_with fail
        refine (Hy.out _).mono ?_
        rintro e w1 ⟨rfl, rfl⟩
        go_wp2_with fail
        refine (Hz.out _).mono ?_
        rintro e w1 ⟨rfl, rfl⟩
        go_wp2_with fail
        refine (alive21_any _).mono ?_
        rintro e w1 ⟨rfl, hb1⟩
        have hbw : Below w.heap.size w w1 := ((((Below.refl _ _).alloc (Nat.le_refl _) _).alloc (by simp) _).alloc (by simp <;> omega) _).trans (hb1.mono (by simp <;> omega))
        have hA := (((BlkIs.new w 26 #[.int .i64 a0, .int .i64 a1]).alloc (.cells #[.int .i64 a0, .int .i64 a1] 26)).alloc (.cells #[.int .i64 c0, .int .i64 c1] 26)).below hb1 (by simp <;> omega)
        have hB := ((BlkIs.new (w.alloc (.cells #[.int .i64 a0, .int .i64 a1] 26)) 26 #[.int .i64 a0, .int .i64 a1]).alloc (.cells #[.int .i64 c0, .int .i64 c1] 26)).below hb1 (by simp <;> omega)
        have hC := (BlkIs.new ((w.alloc (.cells #[.int .i64 a0, .int .i64 a1] 26)).alloc (.cells #[.int .i64 a0, .int .i64 a1] 26)) 26 #[.int .i64 c0, .int .i64 c1]).below hb1 (by simp <;> omega)
        simp at hB hC
        have ha0 := hA.cell 0
        have ha1 := hA.cell 1
        have hb0' := hB.cell 0
        have hb1' := hB.cell 1
        have hc0 := hC.cell 0
        have hc1 := hC.cell 1
        simp at ha0 ha1 hb0' hb1' hc0 hc1
        clear hA hB hC hb1
        go_wp2_with (go_at_call 10; refine (Hq.out _).mono ?_; rintro e w2 ⟨rfl, rfl⟩)
        go_ret
        exact ⟨rfl, hbw⟩
    | false =>
      clear heq
      cases z with
      | true =>
        obtain rfl := h3 rfl rfl
        clear h1 h2 h3
        have Hx := Lib.hid hx; have Hy := Lib.hid hy; have Hz := Lib.hid hz; have Hq := Lib.hid hq
        clear hx hy hz hq
        go_enter Try.func4, Try.ntmps4
        go_wp2_with fail
        refine (Hx.out _).mono ?_
        rintro e w1 ⟨rfl, rfl⟩
        go_wp2_with fail
        refine (Hy.out _).mono ?_
        rintro e w1 ⟨rfl, rfl⟩
        go_wp2_with fail
        refine (Hz.out _).mono ?_
        rintro e w1 ⟨rfl, rfl⟩
        go_wp2_with fail
        refine (alive21_any _).mono ?_
        rintro e w1 ⟨rfl, hb1⟩
        have hbw : Below w.heap.size w w1 := ((((Below.refl _ _).alloc (Nat.le_refl _) _).alloc (by simp) _).alloc (by simp <;> omega) _).trans (hb1.mono (by simp <;> omega))
        have hA := (((BlkIs.new w 26 #[.int .i64 a0, .int .i64 a1]).alloc (.cells #[.int .i64 b0, .int .i64 b1] 26)).alloc (.cells #[.int .i64 c0, .int .i64 c1] 26)).below hb1 (by simp <;> omega)
        have hB := ((BlkIs.new (w.alloc (.cells #[.int .i64 a0, .int .i64 a1] 26)) 26 #[.int .i64 b0, .int .i64 b1]).alloc (.cells #[.int .i64 c0, .int .i64 c1] 26)).below hb1 (by simp <;> omega)
        have hC := (BlkIs.new ((w.alloc (.cells #[.int .i64 a0, .int .i64 a1] 26)).alloc (.cells #[.int .i64 b0, .int .i64 b1] 26)) 26 #[.int .i64 c0, .int .i64 c1]).below hb1 (by simp <;> omega)
        simp at hB hC
        have ha0 := hA.cell 0
        have ha1 := hA.cell 1
        have hb0' := hB.cell 0
        have hb1' := hB.cell 1
        have hc0 := hC.cell 0
        have hc1 := hC.cell 1
        simp at ha0 ha1 hb0' hb1' hc0 hc1
        clear hA hB hC hb1
        go_wp2_with (go_at_call 10; refine (Hq.out _).mono ?_; rintro e w2 ⟨rfl, rfl⟩)
        go_ret
        exact ⟨rfl, hbw⟩
      | false =>
        clear h1 h2 h3
        have Hx := Lib.hid hx; have Hy := Lib.hid hy; have Hz := Lib.hid hz; have Hq := Lib.hid hq
        clear hx hy hz hq
        go_enter Try.func4, Try.ntmps4
        go_wp2_with fail
        refine (Hx.out _).mono ?_
        rintro e w1 ⟨rfl, rfl⟩
        go_wp2_with fail
        refine (Hy.out _).mono ?_
        rintro e w1 ⟨rfl, rfl⟩
        go_wp2_with fail
        refine (Hz.out _).mono ?_
        rintro e w1 ⟨rfl, rfl⟩
        go_wp2_with fail
        refine (alive21_any _).mono ?_
        rintro e w1 ⟨rfl, hb1⟩
        have hbw : Below w.heap.size w w1 := ((((Below.refl _ _).alloc (Nat.le_refl _) _).alloc (by simp) _).alloc (by simp <;> omega) _).trans (hb1.mono (by simp <;> omega))
        have hA := (((BlkIs.new w 26 #[.int .i64 a0, .int .i64 a1]).alloc (.cells #[.int .i64 b0, .int .i64 b1] 26)).alloc (.cells #[.int .i64 c0, .int .i64 c1] 26)).below hb1 (by simp <;> omega)
        have hB := ((BlkIs.new (w.alloc (.cells #[.int .i64 a0, .int .i64 a1] 26)) 26 #[.int .i64 b0, .int .i64 b1]).alloc (.cells #[.int .i64 c0, .int .i64 c1] 26)).below hb1 (by simp <;> omega)
        have hC := (BlkIs.new ((w.alloc (.cells #[.int .i64 a0, .int .i64 a1] 26)).alloc (.cells #[.int .i64 b0, .int .i64 b1] 26)) 26 #[.int .i64 c0, .int .i64 c1]).below hb1 (by simp <;> omega)
        simp at hB hC
        have ha0 := hA.cell 0
        have ha1 := hA.cell 1
        have hb0' := hB.cell 0
        have hb1' := hB.cell 1
        have hc0 := hC.cell 0
        have hc1 := hC.cell 1
        simp at ha0 ha1 hb0' hb1' hc0 hc1
        clear hA hB hC hb1
        go_wp2_with (go_at_call 10; refine (Hq.out _).mono ?_; rintro e w2 ⟨rfl, rfl⟩)
        go_ret
        exact ⟨rfl, hbw⟩
  | false =>
    clear heq
    cases y with
    | true =>
      clear h1 h2 h3
      cases z with
      | true =>
        have Hx := Lib.hid hx; have Hy := Lib.hid hy; have Hz := Lib.hid hz; have Hq := Lib.hid hq
        clear hx hy hz hq
        go_enter Try.func4, Try.ntmps4
        go_wp2_with fail
        refine (Hx.out _).mono ?_
        rintro e w1 ⟨rfl, rfl⟩
        go_wp2_with fail
        refine (Hy.out _).mono ?_
        rintro e w1 ⟨rfl, rfl⟩
        go_wp2_with fail
        refine (Hz.out _).mono ?_
        rintro e w1 ⟨rfl, rfl⟩
        go_wp2_with fail
        refine (alive21_any _).mono ?_
        rintro e w1 ⟨rfl, hb1⟩
        have hbw : Below w.heap.size w w1 := ((((Below.refl _ _).alloc (Nat.le_refl _) _).alloc (by simp) _).alloc (by simp <;> omega) _).trans (hb1.mono (by simp <;> omega))
        have hA := (((BlkIs.new w 26 #[.int .i64 a0, .int .i64 a1]).alloc (.cells #[.int .i64 b0, .int .i64 b1] 26)).alloc (.cells #[.int .i64 c0, .int .i64 c1] 26)).below hb1 (by simp <;> omega)
        have hB := ((BlkIs.new (w.alloc (.cells #[.int .i64 a0, .int .i64 a1] 26)) 26 #[.int .i64 b0, .int .i64 b1]).alloc (.cells #[.int .i64 c0, .int .i64 c1] 26)).below hb1 (by simp <;> omega)
        have hC := (BlkIs.new ((w.alloc (.cells #[.int .i64 a0, .int .i64 a1] 26)).alloc (.cells #[.int .i64 b0, .int .i64 b1] 26)) 26 #[.int .i64 c0, .int .i64 c1]).below hb1 (by simp <;> omega)
        simp at hB hC
        have ha0 := hA.cell 0
        have ha1 := hA.cell 1
        have hb0' := hB.cell 0
        have hb1' := hB.cell 1
        have hc0 := hC.cell 0
        have hc1 := hC.cell 1
        simp at ha0 ha1 hb0' hb1' hc0 hc1
        clear hA hB hC hb1
        go_wp2_with (go_at_call 10; refine (Hq.out _).mono ?_; rintro e w2 ⟨rfl, rfl⟩)
        go_ret
        exact ⟨rfl, hbw⟩
      | false =>
        have Hx := Lib.hid hx; have Hy := Lib.hid hy; have Hz := Lib.hid hz; have Hq := Lib.hid hq
        clear hx hy hz hq
        go_enter Try.func4, Try.ntmps4
        go_wp2_with fail
        refine (Hx.out _).mono ?_
        rintro e w1 ⟨rfl, rfl⟩
        go_wp2_with fail
        refine (Hy.out _).mono ?_
        rintro e w1 ⟨rfl, rfl⟩
        go_wp2_with fail
        refine (Hz.out _).mono ?_
        rintro e w1 ⟨rfl, rfl⟩
        go_wp2_with fail
        refine (alive21_any _).mono ?_
        rintro e w1 ⟨rfl, hb1⟩
        have hbw : Below w.heap.size w w1 := ((((Below.refl _ _).alloc (Nat.le_refl _) _).alloc (by simp) _).alloc (by simp <;> omega) _).trans (hb1.mono (by simp <;> omega))
        have hA := (((BlkIs.new w 26 #[.int .i64 a0, .int .i64 a1]).alloc (.cells #[.int .i64 b0, .int .i64 b1] 26)).alloc (.cells #[.int .i64 c0, .int .i64 c1] 26)).below hb1 (by simp <;> omega)
        have hB := ((BlkIs.new (w.alloc (.cells #[.int .i64 a0, .int .i64 a1] 26)) 26 #[.int .i64 b0, .int .i64 b1]).alloc (.cells #[.int .i64 c0, .int .i64 c1] 26)).below hb1 (by simp <;> omega)
        have hC := (BlkIs.new ((w.alloc (.cells #[.int .i64 a0, .int .i64 a1] 26)).alloc (.cells #[.int .i64 b0, .int .i64 b1] 26)) 26 #[.int .i64 c0, .int .i64 c1]).below hb1 (by simp <;> omega)
        simp at hB hC
        have ha0 := hA.cell 0
        have ha1 := hA.cell 1
        have hb0' := hB.cell 0
        have hb1' := hB.cell 1
        have hc0 := hC.cell 0
        have hc1 := hC.cell 1
        simp at ha0 ha1 hb0' hb1' hc0 hc1
        clear hA hB hC hb1
        go_wp2_with (go_at_call 10; refine (Hq.out _).mono ?_; rintro e w2 ⟨rfl, rfl⟩)
        go_ret
        exact ⟨rfl, hbw⟩
    | false => exact absurd h1 (by simp)
end Go.Proofs.Ytbcbjibbeieaiaa
