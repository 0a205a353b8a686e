/- TabOrders: entries stand in one order; of a nil tab there is nothing. -/
import Derived.Test.YtgaeoglhammjiaaTabAlive
import Derived.Test.YtgaeoglhammjiaaTabEql
namespace Go.Proofs.Ytgaeoglhammjiaa
open Go.RowKit
set_option maxHeartbeats 8000000
set_option maxRecDepth 100000
set_option linter.unusedVariables false

theorem below_al {w w1 w2 : World} {o : Obj} (h : Below w.heap.size w w1) (hb : Below (w1.alloc o).heap.size (w1.alloc o) w2) : Below w.heap.size w w2 :=
  (h.alloc h.size o).trans (hb.mono (by have := h.size; simp; omega))

theorem tabOrders_any (a0 a1 a2 b0 b1 b2 c0 c1 c2 : Int) (W : World) :
    Calls Try.prog 6 #[.agg #[.int .i64 a0, .int .i64 a1, .int .i64 a2], .agg #[.int .i64 b0, .int .i64 b1, .int .i64 b2], .agg #[.int .i64 c0, .int .i64 c1, .int .i64 c2]] W fun e w' => e = .returned (.bool true) ∧ Below W.heap.size W w' := by
  have hless : ∀ (x0 x1 x2 y0 y1 y2 : Int) (w : World), Calls Try.prog 14 #[.agg #[.int .i64 x0, .int .i64 x1, .int .i64 x2], .agg #[.int .i64 y0, .int .i64 y1, .int .i64 y2]] w fun x w' => x = .returned (.bool (ltE (x0, x1, x2) (y0, y1, y2))) ∧ Below w.heap.size w w' := fun x0 x1 x2 y0 y1 y2 w => less_any (x0, x1, x2) (y0, y1, y2) w
  have haa : ltE (a0, a1, a2) (a0, a1, a2) = false := ltE_irrefl _
  have hca : (ltE (a0, a1, a2) (b0, b1, b2) = true ∧ ltE (b0, b1, b2) (a0, a1, a2) = false ∧ ltE (b0, b1, b2) (c0, c1, c2) = true ∧ ltE (a0, a1, a2) (c0, c1, c2) = true ∧ ((a0 == b0) && ((a1 == b1) && (a2 == b2))) = false)
      ∨ (ltE (a0, a1, a2) (b0, b1, b2) = true ∧ ltE (b0, b1, b2) (a0, a1, a2) = false ∧ ltE (b0, b1, b2) (c0, c1, c2) = false ∧ ((a0 == b0) && ((a1 == b1) && (a2 == b2))) = false)
      ∨ (ltE (a0, a1, a2) (b0, b1, b2) = false ∧ a0 = b0 ∧ a1 = b1 ∧ a2 = b2)
      ∨ (ltE (a0, a1, a2) (b0, b1, b2) = false ∧ ltE (b0, b1, b2) (a0, a1, a2) = true ∧ ((a0 == b0) && ((a1 == b1) && (a2 == b2))) = false) := by
    have hne : ¬ ((a0, a1, a2) : En) = (b0, b1, b2) → ((a0 == b0) && ((a1 == b1) && (a2 == b2))) = false := fun h => by
      rw [Bool.eq_false_iff]
      intro e
      simp only [Bool.and_eq_true, beq_iff_eq] at e
      exact h (by rw [e.1, e.2.1, e.2.2])
    cases hab : ltE (a0, a1, a2) (b0, b1, b2) with
    | true =>
      have hba := ltE_asymm hab
      have hn : ¬ ((a0, a1, a2) : En) = (b0, b1, b2) := fun e => by rw [e, ltE_irrefl] at hab; cases hab
      cases hbc : ltE (b0, b1, b2) (c0, c1, c2) with
      | true => exact .inl ⟨rfl, hba, rfl, ltE_trans hab hbc, hne hn⟩
      | false => exact .inr (.inl ⟨rfl, hba, rfl, hne hn⟩)
    | false =>
      rcases ltE_total (a0, a1, a2) (b0, b1, b2) with h | h | h
      · rw [hab] at h; cases h
      · simp only [Prod.mk.injEq] at h
        exact .inr (.inr (.inl ⟨rfl, h⟩))
      · exact .inr (.inr (.inr ⟨rfl, h, hne fun e => by rw [e, ltE_irrefl] at h; cases h⟩))
  obtain ⟨V, hV⟩ : ∃ V, ((W.alloc (.cells #[.int .i64 a0, .int .i64 a1, .int .i64 a2] 26)).alloc (.cells #[.int .i64 b0, .int .i64 b1, .int .i64 b2] 26)).alloc (.cells #[.int .i64 c0, .int .i64 c1, .int .i64 c2] 26) = V := ⟨_, rfl⟩
  have hA : BlkIs V W.heap.size 26 #[.int .i64 a0, .int .i64 a1, .int .i64 a2] := by rw [← hV]; exact ((BlkIs.new _ _ _).alloc _).alloc _
  have hB : BlkIs V (W.heap.size + 1) 26 #[.int .i64 b0, .int .i64 b1, .int .i64 b2] := by
    rw [← hV]
    have := (BlkIs.new (W.alloc (.cells #[.int .i64 a0, .int .i64 a1, .int .i64 a2] 26)) 26 #[.int .i64 b0, .int .i64 b1, .int .i64 b2]).alloc (.cells #[.int .i64 c0, .int .i64 c1, .int .i64 c2] 26)
    simpa using this
  have hC : BlkIs V (W.heap.size + 1 + 1) 26 #[.int .i64 c0, .int .i64 c1, .int .i64 c2] := by
    rw [← hV]
    have := BlkIs.new ((W.alloc (.cells #[.int .i64 a0, .int .i64 a1, .int .i64 a2] 26)).alloc (.cells #[.int .i64 b0, .int .i64 b1, .int .i64 b2] 26)) 26 #[.int .i64 c0, .int .i64 c1, .int .i64 c2]
    simpa using this
  have hb0 : Below W.heap.size W V := by rw [← hV]; exact (((Below.refl _ _).alloc (Nat.le_refl _) _).alloc (by simp) _).alloc (by simp; omega) _
  have hS0 : ∀ wx, Below V.heap.size V wx → wx.cell? ⟨W.heap.size, 0, none⟩ = some (.int .i64 a0) ∧ wx.cell? ⟨W.heap.size, 1, none⟩ = some (.int .i64 a1) ∧ wx.cell? ⟨W.heap.size, 2, none⟩ = some (.int .i64 a2) ∧ wx.cell? ⟨W.heap.size + 1, 0, none⟩ = some (.int .i64 b0) ∧ wx.cell? ⟨W.heap.size + 1, 1, none⟩ = some (.int .i64 b1) ∧ wx.cell? ⟨W.heap.size + 1, 2, none⟩ = some (.int .i64 b2)
      ∧ wx.cell? ⟨W.heap.size + 1 + 1, 0, none⟩ = some (.int .i64 c0) ∧ wx.cell? ⟨W.heap.size + 1 + 1, 1, none⟩ = some (.int .i64 c1) ∧ wx.cell? ⟨W.heap.size + 1 + 1, 2, none⟩ = some (.int .i64 c2) := by
    intro wx h
    have f1 := (hA.below h hA.lt).cell; have f2 := (hB.below h hB.lt).cell; have f3 := (hC.below h hC.lt).cell
    exact ⟨f1 0, f1 1, f1 2, f2 0, f2 1, f2 2, f3 0, f3 1, f3 2⟩
  have HB := Below.refl V.heap.size V
  obtain ⟨s0, s1, s2, s3, s4, s5, s6, s7, s8⟩ := hS0 _ HB
  have HS := Lib.hid hS0; have Hb0 := Lib.hid hb0; have Hless := Lib.hid hless
  clear hA hB hC hS0 hb0 hless
  go_enter Try.func6, Try.ntmps6
  rcases hca with ⟨h1, h2, h3, h4, h5⟩ | ⟨h1, h2, h3, h5⟩ | ⟨h1, rfl, rfl, rfl⟩ | ⟨h1, h2, h5⟩
  · as_aux_lemma =>
    have hE : ∀ w, (binOp .eql 26 (.agg #[.int .i64 a0, .int .i64 a1, .int .i64 a2]) (.agg #[.int .i64 b0, .int .i64 b1, .int .i64 b2])).run Try.prog w = .ok (.bool false) w := fun w => by rw [run_eql_en, h5]
    go_wp2_with fail
    refine (lastNil_any _ _).mono ?_
    rintro x w1 ⟨rfl, hb1⟩
    replace HB := HB.trans (hb1.mono HB.size)
    go_wp2_with fail
    refine (alive12_any _).mono ?_
    rintro x w2 ⟨rfl, hb2⟩
    replace HB := below_al HB hb2
    clear s0 s1 s2 s3 s4 s5 s6 s7 s8
    obtain ⟨s0, s1, s2, s3, s4, s5, s6, s7, s8⟩ := HS.out _ HB
    go_wp2_with fail
    refine (Hless.out _ _ _ _ _ _ _).mono ?_
    rintro x wx ⟨rfl, hb⟩
    replace HB := HB.trans (hb.mono HB.size)
    clear hb s0 s1 s2 s3 s4 s5 s6 s7 s8
    obtain ⟨s0, s1, s2, s3, s4, s5, s6, s7, s8⟩ := HS.out _ HB
    go_wp2_with fail
    refine (Hless.out _ _ _ _ _ _ _).mono ?_
    rintro x wx ⟨rfl, hb⟩
    replace HB := HB.trans (hb.mono HB.size)
    clear hb s0 s1 s2 s3 s4 s5 s6 s7 s8
    obtain ⟨s0, s1, s2, s3, s4, s5, s6, s7, s8⟩ := HS.out _ HB
    go_wp2_with fail
    refine (Hless.out _ _ _ _ _ _ _).mono ?_
    rintro x wx ⟨rfl, hb⟩
    replace HB := HB.trans (hb.mono HB.size)
    clear hb s0 s1 s2 s3 s4 s5 s6 s7 s8
    obtain ⟨s0, s1, s2, s3, s4, s5, s6, s7, s8⟩ := HS.out _ HB
    go_wp2_with fail
    refine (Hless.out _ _ _ _ _ _ _).mono ?_
    rintro x wx ⟨rfl, hb⟩
    replace HB := HB.trans (hb.mono HB.size)
    clear hb s0 s1 s2 s3 s4 s5 s6 s7 s8
    obtain ⟨s0, s1, s2, s3, s4, s5, s6, s7, s8⟩ := HS.out _ HB
    go_wp2_with fail
    refine (Hless.out _ _ _ _ _ _ _).mono ?_
    rintro x wx ⟨rfl, hb⟩
    replace HB := HB.trans (hb.mono HB.size)
    clear hb s0 s1 s2 s3 s4 s5 s6 s7 s8
    obtain ⟨s0, s1, s2, s3, s4, s5, s6, s7, s8⟩ := HS.out _ HB
    go_wp2_with fail
    refine (Hless.out _ _ _ _ _ _ _).mono ?_
    rintro x wx ⟨rfl, hb⟩
    replace HB := HB.trans (hb.mono HB.size)
    clear hb s0 s1 s2 s3 s4 s5 s6 s7 s8
    obtain ⟨s0, s1, s2, s3, s4, s5, s6, s7, s8⟩ := HS.out _ HB
    go_wp2_with fail
    refine (Hless.out _ _ _ _ _ _ _).mono ?_
    rintro x wx ⟨rfl, hb⟩
    replace HB := HB.trans (hb.mono HB.size)
    clear hb s0 s1 s2 s3 s4 s5 s6 s7 s8
    obtain ⟨s0, s1, s2, s3, s4, s5, s6, s7, s8⟩ := HS.out _ HB
    go_wp2_with fail
    clear s0 s1 s2 s3 s4 s5 s6 s7 s8
    refine (addNil_any _ _).mono ?_
    rintro x wx ⟨rfl, rfl⟩
    go_wp2_with fail
    refine (cutNil_any _ _).mono ?_
    rintro x wx ⟨rfl, hb⟩
    replace HB := below_al HB hb
    go_wp2_with fail
    refine (lenNil_any _).mono ?_
    rintro x wx ⟨rfl, rfl⟩
    go_wp2_with fail
    refine (allNil_any _).mono ?_
    rintro x wx ⟨rfl, rfl⟩
    go_wp2_with fail
    refine (findNil_any _ _ _).mono ?_
    rintro x wx ⟨A1, c1, rfl, hb⟩
    replace HB := HB.trans (hb.mono HB.size)
    go_wp2_with fail
    refine (rangeNil_any _ _ _ _).mono ?_
    rintro x wx ⟨A2, c2, rfl, hb⟩
    replace HB := HB.trans (hb.mono HB.size)
    go_wp2_with fail
    go_ret
    exact ⟨rfl, Hb0.out.trans (HB.mono Hb0.out.size)⟩
  · as_aux_lemma =>
    have hE : ∀ w, (binOp .eql 26 (.agg #[.int .i64 a0, .int .i64 a1, .int .i64 a2]) (.agg #[.int .i64 b0, .int .i64 b1, .int .i64 b2])).run Try.prog w = .ok (.bool false) w := fun w => by rw [run_eql_en, h5]
    go_wp2_with fail
    refine (lastNil_any _ _).mono ?_
    rintro x w1 ⟨rfl, hb1⟩
    replace HB := HB.trans (hb1.mono HB.size)
    go_wp2_with fail
    refine (alive12_any _).mono ?_
    rintro x w2 ⟨rfl, hb2⟩
    replace HB := below_al HB hb2
    clear s0 s1 s2 s3 s4 s5 s6 s7 s8
    obtain ⟨s0, s1, s2, s3, s4, s5, s6, s7, s8⟩ := HS.out _ HB
    go_wp2_with fail
    refine (Hless.out _ _ _ _ _ _ _).mono ?_
    rintro x wx ⟨rfl, hb⟩
    replace HB := HB.trans (hb.mono HB.size)
    clear hb s0 s1 s2 s3 s4 s5 s6 s7 s8
    obtain ⟨s0, s1, s2, s3, s4, s5, s6, s7, s8⟩ := HS.out _ HB
    go_wp2_with fail
    refine (Hless.out _ _ _ _ _ _ _).mono ?_
    rintro x wx ⟨rfl, hb⟩
    replace HB := HB.trans (hb.mono HB.size)
    clear hb s0 s1 s2 s3 s4 s5 s6 s7 s8
    obtain ⟨s0, s1, s2, s3, s4, s5, s6, s7, s8⟩ := HS.out _ HB
    go_wp2_with fail
    refine (Hless.out _ _ _ _ _ _ _).mono ?_
    rintro x wx ⟨rfl, hb⟩
    replace HB := HB.trans (hb.mono HB.size)
    clear hb s0 s1 s2 s3 s4 s5 s6 s7 s8
    obtain ⟨s0, s1, s2, s3, s4, s5, s6, s7, s8⟩ := HS.out _ HB
    go_wp2_with fail
    refine (Hless.out _ _ _ _ _ _ _).mono ?_
    rintro x wx ⟨rfl, hb⟩
    replace HB := HB.trans (hb.mono HB.size)
    clear hb s0 s1 s2 s3 s4 s5 s6 s7 s8
    obtain ⟨s0, s1, s2, s3, s4, s5, s6, s7, s8⟩ := HS.out _ HB
    go_wp2_with fail
    refine (Hless.out _ _ _ _ _ _ _).mono ?_
    rintro x wx ⟨rfl, hb⟩
    replace HB := HB.trans (hb.mono HB.size)
    clear hb s0 s1 s2 s3 s4 s5 s6 s7 s8
    obtain ⟨s0, s1, s2, s3, s4, s5, s6, s7, s8⟩ := HS.out _ HB
    go_wp2_with fail
    refine (Hless.out _ _ _ _ _ _ _).mono ?_
    rintro x wx ⟨rfl, hb⟩
    replace HB := HB.trans (hb.mono HB.size)
    clear hb s0 s1 s2 s3 s4 s5 s6 s7 s8
    obtain ⟨s0, s1, s2, s3, s4, s5, s6, s7, s8⟩ := HS.out _ HB
    go_wp2_with fail
    clear s0 s1 s2 s3 s4 s5 s6 s7 s8
    refine (addNil_any _ _).mono ?_
    rintro x wx ⟨rfl, rfl⟩
    go_wp2_with fail
    refine (cutNil_any _ _).mono ?_
    rintro x wx ⟨rfl, hb⟩
    replace HB := below_al HB hb
    go_wp2_with fail
    refine (lenNil_any _).mono ?_
    rintro x wx ⟨rfl, rfl⟩
    go_wp2_with fail
    refine (allNil_any _).mono ?_
    rintro x wx ⟨rfl, rfl⟩
    go_wp2_with fail
    refine (findNil_any _ _ _).mono ?_
    rintro x wx ⟨A1, c1, rfl, hb⟩
    replace HB := HB.trans (hb.mono HB.size)
    go_wp2_with fail
    refine (rangeNil_any _ _ _ _).mono ?_
    rintro x wx ⟨A2, c2, rfl, hb⟩
    replace HB := HB.trans (hb.mono HB.size)
    go_wp2_with fail
    go_ret
    exact ⟨rfl, Hb0.out.trans (HB.mono Hb0.out.size)⟩
  · as_aux_lemma =>
    go_wp2_with fail
    refine (lastNil_any _ _).mono ?_
    rintro x w1 ⟨rfl, hb1⟩
    replace HB := HB.trans (hb1.mono HB.size)
    go_wp2_with fail
    refine (alive12_any _).mono ?_
    rintro x w2 ⟨rfl, hb2⟩
    replace HB := below_al HB hb2
    clear s0 s1 s2 s3 s4 s5 s6 s7 s8
    obtain ⟨s0, s1, s2, s3, s4, s5, s6, s7, s8⟩ := HS.out _ HB
    go_wp2_with fail
    refine (Hless.out _ _ _ _ _ _ _).mono ?_
    rintro x wx ⟨rfl, hb⟩
    replace HB := HB.trans (hb.mono HB.size)
    clear hb s0 s1 s2 s3 s4 s5 s6 s7 s8
    obtain ⟨s0, s1, s2, s3, s4, s5, s6, s7, s8⟩ := HS.out _ HB
    go_wp2_with fail
    refine (Hless.out _ _ _ _ _ _ _).mono ?_
    rintro x wx ⟨rfl, hb⟩
    replace HB := HB.trans (hb.mono HB.size)
    clear hb s0 s1 s2 s3 s4 s5 s6 s7 s8
    obtain ⟨s0, s1, s2, s3, s4, s5, s6, s7, s8⟩ := HS.out _ HB
    go_wp2_with fail
    refine (Hless.out _ _ _ _ _ _ _).mono ?_
    rintro x wx ⟨rfl, hb⟩
    replace HB := HB.trans (hb.mono HB.size)
    clear hb s0 s1 s2 s3 s4 s5 s6 s7 s8
    obtain ⟨s0, s1, s2, s3, s4, s5, s6, s7, s8⟩ := HS.out _ HB
    go_wp2_with fail
    clear s0 s1 s2 s3 s4 s5 s6 s7 s8
    refine (addNil_any _ _).mono ?_
    rintro x wx ⟨rfl, rfl⟩
    go_wp2_with fail
    refine (cutNil_any _ _).mono ?_
    rintro x wx ⟨rfl, hb⟩
    replace HB := below_al HB hb
    go_wp2_with fail
    refine (lenNil_any _).mono ?_
    rintro x wx ⟨rfl, rfl⟩
    go_wp2_with fail
    refine (allNil_any _).mono ?_
    rintro x wx ⟨rfl, rfl⟩
    go_wp2_with fail
    refine (findNil_any _ _ _).mono ?_
    rintro x wx ⟨A1, c1, rfl, hb⟩
    replace HB := HB.trans (hb.mono HB.size)
    go_wp2_with fail
    refine (rangeNil_any _ _ _ _).mono ?_
    rintro x wx ⟨A2, c2, rfl, hb⟩
    replace HB := HB.trans (hb.mono HB.size)
    go_wp2_with fail
    go_ret
    exact ⟨rfl, Hb0.out.trans (HB.mono Hb0.out.size)⟩
  · as_aux_lemma =>
    have hE : ∀ w, (binOp .eql 26 (.agg #[.int .i64 a0, .int .i64 a1, .int .i64 a2]) (.agg #[.int .i64 b0, .int .i64 b1, .int .i64 b2])).run Try.prog w = .ok (.bool false) w := fun w => by rw [run_eql_en, h5]
    go_wp2_with fail
    refine (lastNil_any _ _).mono ?_
    rintro x w1 ⟨rfl, hb1⟩
    replace HB := HB.trans (hb1.mono HB.size)
    go_wp2_with fail
    refine (alive12_any _).mono ?_
    rintro x w2 ⟨rfl, hb2⟩
    replace HB := below_al HB hb2
    clear s0 s1 s2 s3 s4 s5 s6 s7 s8
    obtain ⟨s0, s1, s2, s3, s4, s5, s6, s7, s8⟩ := HS.out _ HB
    go_wp2_with fail
    refine (Hless.out _ _ _ _ _ _ _).mono ?_
    rintro x wx ⟨rfl, hb⟩
    replace HB := HB.trans (hb.mono HB.size)
    clear hb s0 s1 s2 s3 s4 s5 s6 s7 s8
    obtain ⟨s0, s1, s2, s3, s4, s5, s6, s7, s8⟩ := HS.out _ HB
    go_wp2_with fail
    refine (Hless.out _ _ _ _ _ _ _).mono ?_
    rintro x wx ⟨rfl, hb⟩
    replace HB := HB.trans (hb.mono HB.size)
    clear hb s0 s1 s2 s3 s4 s5 s6 s7 s8
    obtain ⟨s0, s1, s2, s3, s4, s5, s6, s7, s8⟩ := HS.out _ HB
    go_wp2_with fail
    refine (Hless.out _ _ _ _ _ _ _).mono ?_
    rintro x wx ⟨rfl, hb⟩
    replace HB := HB.trans (hb.mono HB.size)
    clear hb s0 s1 s2 s3 s4 s5 s6 s7 s8
    obtain ⟨s0, s1, s2, s3, s4, s5, s6, s7, s8⟩ := HS.out _ HB
    go_wp2_with fail
    refine (Hless.out _ _ _ _ _ _ _).mono ?_
    rintro x wx ⟨rfl, hb⟩
    replace HB := HB.trans (hb.mono HB.size)
    clear hb s0 s1 s2 s3 s4 s5 s6 s7 s8
    obtain ⟨s0, s1, s2, s3, s4, s5, s6, s7, s8⟩ := HS.out _ HB
    go_wp2_with fail
    refine (Hless.out _ _ _ _ _ _ _).mono ?_
    rintro x wx ⟨rfl, hb⟩
    replace HB := HB.trans (hb.mono HB.size)
    clear hb s0 s1 s2 s3 s4 s5 s6 s7 s8
    obtain ⟨s0, s1, s2, s3, s4, s5, s6, s7, s8⟩ := HS.out _ HB
    go_wp2_with fail
    clear s0 s1 s2 s3 s4 s5 s6 s7 s8
    refine (addNil_any _ _).mono ?_
    rintro x wx ⟨rfl, rfl⟩
    go_wp2_with fail
    refine (cutNil_any _ _).mono ?_
    rintro x wx ⟨rfl, hb⟩
    replace HB := below_al HB hb
    go_wp2_with fail
    refine (lenNil_any _).mono ?_
    rintro x wx ⟨rfl, rfl⟩
    go_wp2_with fail
    refine (allNil_any _).mono ?_
    rintro x wx ⟨rfl, rfl⟩
    go_wp2_with fail
    refine (findNil_any _ _ _).mono ?_
    rintro x wx ⟨A1, c1, rfl, hb⟩
    replace HB := HB.trans (hb.mono HB.size)
    go_wp2_with fail
    refine (rangeNil_any _ _ _ _).mono ?_
    rintro x wx ⟨A2, c2, rfl, hb⟩
    replace HB := HB.trans (hb.mono HB.size)
    go_wp2_with fail
    go_ret
    exact ⟨rfl, Hb0.out.trans (HB.mono Hb0.out.size)⟩
end Go.Proofs.Ytgaeoglhammjiaa
