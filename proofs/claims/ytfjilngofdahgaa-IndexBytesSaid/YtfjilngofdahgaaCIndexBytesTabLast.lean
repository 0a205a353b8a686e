/- chapter 12: Last; Last of a nil tab. -/
import Derived.Test.YtfjilngofdahgaaJIndexBytes3
import Derived.Test.YtfjilngofdahgaaCIndexBytesTabNil
import Derived.Test.YtfjilngofdahgaaCIndexBytesTabBack

namespace Go.Proofs.Ytfjilngofdahgaa
open Go.RowKit
set_option maxHeartbeats 2000000
set_option maxRecDepth 100000
set_option linter.unusedVariables false

theorem last_any (base T : Nat) (r : Option Nat) (l : List En) (h : Int) (w : World) (ht : TabIs w base T r l) (hn : l.length ≤ 1000000) :
    Calls Try.prog 19 #[.pointer (some ⟨T, 0, none⟩), .int .i64 h] w fun e W' => e = .returned (.tuple #[enA ((lastE l h).getD (0, 0, 0)), .bool (lastE l h).isSome]) ∧ Below w.heap.size w W' := by
  have hb0 : Below w.heap.size w (w.alloc (.cells #[.int .i64 0, .int .i64 0, .int .i64 0] 27)) := (Below.refl _ _).alloc (Nat.le_refl _) _
  have hE := BlkIs.new w 27 #[.int .i64 0, .int .i64 0, .int .i64 0]
  have hal := all_any base T r l _ (ht.below hb0) hn
  have hpl := fun A n c w (hr : SlR w w.heap.size 3 A n (enVs l)) hn => final_any A n c w.heap.size l h w hr (Nat.le_refl _) hn
  obtain ⟨p, hp⟩ : ∃ p, p = (lastE l h).getD (0, 0, 0) := ⟨_, rfl⟩
  obtain ⟨q, hq⟩ : ∃ q, q = (lastE l h).isSome := ⟨_, rfl⟩
  rw [← hp, ← hq]
  rw [← hp, ← hq] at hpl
  obtain ⟨p0, p1, p2⟩ := p
  have Hpl := Lib.hid hpl; have HE := Lib.hid hE; have Hb0 := Lib.hid hb0
  clear ht hpl hp hq hE hb0
  go_enter Try.func19, Try.ntmps19
  go_wp2_with fail
  refine hal.mono ?_
  rintro x w1 ⟨u, rfl, hown1, hb1⟩
  obtain ⟨A, c, rfl, hnc⟩ := own_slice hown1
  have hr1 := SlR.own hown1
  have hE1 := HE.out.below hb1 HE.out.lt
  clear hown1
  go_wp2_with fail
  refine (Hpl.out _ _ _ _ hr1 hn).mono ?_
  rintro x w2 ⟨rfl, hb2⟩
  have hE2 := hE1.below hb2 hE1.lt
  unfold enA
  dsimp only
  have e0 := hE2.cell 0
  have e1 := hE2.cell 1
  have e2 := hE2.cell 2
  have f0 := hE2.free 0
  have f1 := hE2.free 1
  have f2 := hE2.free 2
  go_wp2_with fail
  have hB2 := Hb0.out.trans ((hb1.trans (hb2.mono hb1.size)).mono Hb0.out.size)
  have hE3 := ((hE2.put 0 (.int .i64 p0)).put 1 (.int .i64 p1)).put 2 (.int .i64 p2)
  have hB3 := ((hB2.setCell (p := ⟨w.heap.size, 0, none⟩) (Nat.le_refl _) (.int .i64 p0)).setCell (p := ⟨w.heap.size, 1, none⟩) (Nat.le_refl _) (.int .i64 p1)).setCell (p := ⟨w.heap.size, 2, none⟩) (Nat.le_refl _) (.int .i64 p2)
  generalize ((w2.setCell ⟨w.heap.size, 0, none⟩ (.int .i64 p0)).setCell ⟨w.heap.size, 1, none⟩ (.int .i64 p1)).setCell ⟨w.heap.size, 2, none⟩ (.int .i64 p2) = V at hE3 hB3 ⊢
  have q0 := hE3.cell 0
  have q1 := hE3.cell 1
  have q2 := hE3.cell 2
  simp at q0 q1 q2
  refine bodyPost_ret (v := .tuple #[.agg #[.int .i64 p0, .int .i64 p1, .int .i64 p2], .bool q]) (by simp [results, Try.f19, go_sem, q0, q1, q2]) rfl ?_
  exact ⟨rfl, hB3⟩

theorem lastNil_any (h : Int) (w : World) :
    Calls Try.prog 19 #[.pointer none, .int .i64 h] w fun e W' => e = .returned (.tuple #[.agg #[.int .i64 0, .int .i64 0, .int .i64 0], .bool false]) ∧ Below w.heap.size w W' := by
  have hb0 : Below w.heap.size w (w.alloc (.cells #[.int .i64 0, .int .i64 0, .int .i64 0] 27)) := (Below.refl _ _).alloc (Nat.le_refl _) _
  have hE := BlkIs.new w 27 #[.int .i64 0, .int .i64 0, .int .i64 0]
  have hr : ∀ w, SlR w w.heap.size 3 none 0 (enVs []) := fun w => SlR.own (World.ownsRow_nil w w.heap.size 27 3)
  have hpl := fun w => final_any none 0 0 w.heap.size [] h w (hr w) (Nat.le_refl _) (by omega)
  have Hpl := Lib.hid hpl; have HE := Lib.hid hE; have Hb0 := Lib.hid hb0
  clear hpl hE hb0 hr
  go_enter Try.func19, Try.ntmps19
  go_wp2_with fail
  refine (allNil_any _).mono ?_
  rintro x w1 ⟨rfl, rfl⟩
  go_wp2_with fail
  refine (Hpl.out _).mono ?_
  rintro x w2 ⟨rfl, hb2⟩
  have hE2 := HE.out.below hb2 HE.out.lt
  unfold enA lastE
  dsimp only [List.filter_nil, List.getLast?_nil, Option.getD_none, Option.isSome_none]
  have e0 := hE2.cell 0
  have e1 := hE2.cell 1
  have e2 := hE2.cell 2
  have f0 := hE2.free 0
  have f1 := hE2.free 1
  have f2 := hE2.free 2
  go_wp2_with fail
  have hB2 := Hb0.out.trans (hb2.mono Hb0.out.size)
  have hE3 := ((hE2.put 0 (.int .i64 0)).put 1 (.int .i64 0)).put 2 (.int .i64 0)
  have hB3 := ((hB2.setCell (p := ⟨w.heap.size, 0, none⟩) (Nat.le_refl _) (.int .i64 0)).setCell (p := ⟨w.heap.size, 1, none⟩) (Nat.le_refl _) (.int .i64 0)).setCell (p := ⟨w.heap.size, 2, none⟩) (Nat.le_refl _) (.int .i64 0)
  generalize ((w2.setCell ⟨w.heap.size, 0, none⟩ (.int .i64 0)).setCell ⟨w.heap.size, 1, none⟩ (.int .i64 0)).setCell ⟨w.heap.size, 2, none⟩ (.int .i64 0) = V at hE3 hB3 ⊢
  have q0 := hE3.cell 0
  have q1 := hE3.cell 1
  have q2 := hE3.cell 2
  simp at q0 q1 q2
  refine bodyPost_ret (v := .tuple #[.agg #[.int .i64 0, .int .i64 0, .int .i64 0], .bool false]) (by simp [results, Try.f19, go_sem, q0, q1, q2]) rfl ?_
  exact ⟨rfl, hB3⟩
end Go.Proofs.Ytfjilngofdahgaa
