/- chapter 13: the methods of a nil table. -/
import Derived.Test.YtfkkcgdniepgoaaGreatJTableMerges7
import Derived.Test.YtfkkcgdniepgoaaGreatCTableMergesTblLast

namespace Go.Proofs.YtfkkcgdniepgoaaGreat
open Go.RowKit
set_option maxHeartbeats 4000000
set_option maxRecDepth 100000
set_option linter.unusedVariables false

theorem sortSearch_zero (v : Value) (D : Int) (w : World) (hD : D = 0) :
    Calls Tryz.prog 95 #[.int .i64 D, v] w fun x w' => x = .returned (.int .i64 0) ∧ w = w' := by
  subst hD
  go_enter Tryz.func95, Tryz.ntmps95
  go_wp2_with fail
  go_loopw [5, 6] (fun i j wr => i = .int .i64 0 ∧ j = .int .i64 0 ∧ w = wr) (fun i j _ => (intOf j - intOf i).toNat)
  case atStart => exact ⟨rfl, rfl, rfl⟩
  case round =>
    obtain ⟨rfl, rfl, rfl⟩ := hrel
    go_wp2_with fail
    go_ret
    exact ⟨rfl, rfl⟩

theorem tblLenNil_any (w : World) :
    Calls Tryz.prog 27 #[.pointer none] w fun x w' => x = .returned (.int .i64 0) ∧ w = w' := by
  go_enter Tryz.func27, Tryz.ntmps27
  go_wp2_with fail
  go_ret
  exact ⟨rfl, rfl⟩
theorem tblAllNil_any (w : World) :
    Calls Tryz.prog 13 #[.pointer none] w fun x w' => x = .returned (.slice none 0 0) ∧ w = w' := by
  go_enter Tryz.func13, Tryz.ntmps13
  go_wp2_with fail
  go_ret
  exact ⟨rfl, rfl⟩
theorem tblMidsNil_any (w : World) :
    Calls Tryz.prog 16 #[.pointer none] w fun x w' => x = .returned (.slice none 0 0) ∧ w = w' := by
  go_enter Tryz.func16, Tryz.ntmps16
  go_wp2_with fail
  refine (tblAllNil_any _).mono ?_
  rintro e w1 ⟨rfl, rfl⟩
  go_wp2_with fail
  go_loopw [3, 9] (fun o i wr => o = .slice none 0 0 ∧ i = .int .i64 0 ∧ w = wr) (fun _ i _ => (intOf i).toNat)
  case atStart => exact ⟨rfl, rfl, rfl⟩
  case round =>
    obtain ⟨rfl, rfl, rfl⟩ := hrel
    go_wp2_with fail
    go_ret
    exact ⟨rfl, rfl⟩
theorem tblLastNil_any (h : Int) (w : World) :
    Calls Tryz.prog 19 #[.pointer none, .int .i64 h] w fun e W' => e = .returned (.tuple #[enA (0, 0, 0), .bool false]) ∧ Below w.heap.size w W' := by
  have hb0 : Below w.heap.size w (w.alloc (.cells #[.int .i64 0, .int .i64 0, .int .i64 0] 53)) := (Below.refl _ _).alloc (Nat.le_refl _) _
  have hE := BlkIs.new w 53 #[.int .i64 0, .int .i64 0, .int .i64 0]
  have hpl := fun w => final_any none 0 0 w.heap.size [] h w (SlR.nil _ _ _ _) (Nat.le_refl _) (by omega)
  have Hpl := Lib.hid hpl; have HE := Lib.hid hE; have Hb0 := Lib.hid hb0
  clear hpl hE hb0
  go_enter Tryz.func19, Tryz.ntmps19
  go_wp2_with fail
  refine (tblAllNil_any _).mono ?_
  rintro x w1 ⟨rfl, rfl⟩
  go_wp2_with fail
  refine (Hpl.out _).mono ?_
  rintro x w2 ⟨rfl, hb2⟩
  have hE2 := HE.out.below hb2 HE.out.lt
  have hl : lastE [] h = none := rfl
  rw [hl]
  unfold enA
  dsimp only [Option.getD, Option.isSome]
  have e0 := hE2.cell 0
  have e1 := hE2.cell 1
  have e2 := hE2.cell 2
  have f0 := hE2.free 0
  have f1 := hE2.free 1
  have f2 := hE2.free 2
  go_wp2_with fail
  have hB2 := Hb0.out.trans (hb2.mono Hb0.out.size)
  have hE3 := ((hE2.put 0 (.int .i64 0)).put 1 (.int .i64 0)).put 2 (.int .i64 0)
  have hB3 := ((hB2.setCell (p := ⟨w.heap.size, 0, none⟩) (Nat.le_refl _) (.int .i64 0)).setCell (p := ⟨w.heap.size, 1, none⟩) (Nat.le_refl _) (.int .i64 0)).setCell (p := ⟨w.heap.size, 2, none⟩) (Nat.le_refl _) (.int .i64 0)
  generalize ((w2.setCell ⟨w.heap.size, 0, none⟩ (.int .i64 0)).setCell ⟨w.heap.size, 1, none⟩ (.int .i64 0)).setCell ⟨w.heap.size, 2, none⟩ (.int .i64 0) = V at hE3 hB3 ⊢
  have q0 := hE3.cell 0
  have q1 := hE3.cell 1
  have q2 := hE3.cell 2
  simp at q0 q1 q2
  refine bodyPost_ret (v := .tuple #[.agg #[.int .i64 0, .int .i64 0, .int .i64 0], .bool false]) (by simp [results, Tryz.f19, go_sem, q0, q1, q2]) rfl ?_
  exact ⟨rfl, hB3⟩

theorem tblFromNil_any (e : En) (w : World) :
    Calls Tryz.prog 48 #[.pointer none, enA e] w fun x w' => x = .returned (.int .i64 0) ∧ Below w.heap.size w w' := by
  obtain ⟨e0, e1, e2⟩ := e
  unfold enA
  dsimp only
  obtain ⟨W, hW⟩ : ∃ W, w.alloc (.cells #[.int .i64 e0, .int .i64 e1, .int .i64 e2] 53) = W := ⟨_, rfl⟩
  have hb0 : Below w.heap.size w W := by rw [← hW]; exact (Below.refl _ _).alloc (Nat.le_refl _) _
  go_enter Tryz.func48, Tryz.ntmps48
  go_wp2_with fail
  (try rw [hW])
  refine (tblMidsNil_any _).mono ?_
  rintro x w1 ⟨rfl, rfl⟩
  go_wp2_with fail
  obtain ⟨X, hX⟩ : ∃ X, W.alloc (.cells #[.slice none 0 0] 22) = X := ⟨_, rfl⟩
  have hXb : Below w.heap.size w X := by rw [← hX]; exact hb0.alloc hb0.size _
  have hXM : BlkIs X W.heap.size 22 #[.slice none 0 0] := by rw [← hX]; exact BlkIs.new _ _ _
  rw [hX]
  refine (sortSearch_zero _ _ _ rfl).mono ?_
  rintro x w2 ⟨rfl, rfl⟩
  go_wp2_with fail
  refine (tblAllNil_any _).mono ?_
  rintro x w3 ⟨rfl, rfl⟩
  have hXm := hXM.cell 0
  simp at hXm
  have hWX : W.heap.size < X.heap.size := hXM.lt
  have hmx : max (-1 : Int) 0 = 0 := by decide
  have hmn : min (1 : Int) 0 = 0 := by decide
  have HXM := Lib.hid hXM
  have HXb := Lib.hid hXb
  clear hX hXb hXM hb0 hW
  go_wp2_with fail
  obtain ⟨Y, hY⟩ : ∃ Y, (X.alloc (.cells #[.slice none 0 0] 22)).alloc (.cells #[.int .i64 0] 3) = Y := ⟨_, rfl⟩
  have hYb : Below w.heap.size w Y := by rw [← hY]; exact (HXb.out.alloc HXb.out.size _).alloc (Nat.le_trans HXb.out.size (by simp)) _
  have hYO : BlkIs Y (X.heap.size + 1) 3 #[.int .i64 0] := by rw [← hY]; have := BlkIs.new (X.alloc (.cells #[.slice none 0 0] 22)) 3 #[.int .i64 0]; simpa using this
  rw [hY]
  have HY := Lib.hid hYb
  have hS0 : ∀ wx, Below Y.heap.size Y wx → wx.cell? ⟨X.heap.size + 1, 0, none⟩ = some (.int .i64 0) := fun wx h => (hYO.below h hYO.lt).cell 0
  have HS := Lib.hid hS0
  have HB := Below.refl Y.heap.size Y
  have hS := HS.out _ HB
  clear hY hYb hYO hXm hWX hmx hmn hS0
  go_region_held3 (fun wx => wx.cell? ⟨X.heap.size + 1, 0, none⟩ = some (.int .i64 0)) (first | exact hS | go_keep) ((first
    | (go_at_call 95; refine (sortSearch_zero _ _ _ rfl).mono ?_; rintro e wx ⟨rfl, rfl⟩)))
  all_goals
    go_wp2_with fail
    go_ret
    exact ⟨rfl, HY.out.trans ((Below.refl _ _).drew.mono HY.out.size)⟩

theorem tblFindNil_any (h v : Int) (w : World) :
    Calls Tryz.prog 15 #[.pointer none, .int .i64 h, .int .i64 v] w fun x w' => x = .returned (.slice none 0 0) ∧ Below w.heap.size w w' := by
  have hfr := fun w => tblFromNil_any (h, v, 0) w
  unfold enA at hfr
  dsimp only at hfr
  have Hfr := Lib.hid hfr
  clear hfr
  go_enter Tryz.func15, Tryz.ntmps15
  go_wp2_with fail
  refine (tblAllNil_any _).mono ?_
  rintro x w1 ⟨rfl, rfl⟩
  go_wp2_with fail
  refine (Hfr.out _).mono ?_
  rintro x w2 ⟨rfl, hb2⟩
  have HB2 := Lib.hid hb2
  clear hb2
  go_wp2_with fail
  go_loopw [7, 9] (fun o i wr => o = .slice none 0 0 ∧ i = .int .i64 0 ∧ w2 = wr) (fun _ i _ => (intOf i).toNat)
  case atStart => exact ⟨rfl, rfl, rfl⟩
  case round =>
    obtain ⟨rfl, rfl, rfl⟩ := hrel
    go_wp2_with fail
    go_ret
    exact ⟨rfl, HB2.out⟩

theorem tblRangeNil_any (h a b : Int) (w : World) :
    Calls Tryz.prog 14 #[.pointer none, .int .i64 h, .int .i64 a, .int .i64 b] w fun x w' => x = .returned (.slice none 0 0) ∧ Below w.heap.size w w' := by
  have hfr := fun w => tblFromNil_any (h, a, 0) w
  unfold enA at hfr
  dsimp only at hfr
  have Hfr := Lib.hid hfr
  clear hfr
  go_enter Tryz.func14, Tryz.ntmps14
  go_wp2_with fail
  refine (tblAllNil_any _).mono ?_
  rintro x w1 ⟨rfl, rfl⟩
  go_wp2_with fail
  refine (Hfr.out _).mono ?_
  rintro x w2 ⟨rfl, hb2⟩
  have HB2 := Lib.hid hb2
  clear hb2
  go_wp2_with fail
  go_loopw [9, 11] (fun o i wr => o = .slice none 0 0 ∧ i = .int .i64 0 ∧ w2 = wr) (fun _ i _ => (intOf i).toNat)
  case atStart => exact ⟨rfl, rfl, rfl⟩
  case round =>
    obtain ⟨rfl, rfl, rfl⟩ := hrel
    go_wp2_with fail
    go_ret
    exact ⟨rfl, HB2.out⟩
end Go.Proofs.YtfkkcgdniepgoaaGreat
