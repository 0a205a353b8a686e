/- package ship: an entry laid and got back; chapter 22: alive. -/
import Derived.Test.YtnnnilpgnjndlaaCShipBytesMark3
import Derived.Test.YtnnnilpgnjndlaaCShipBytesShip2

namespace Go.Proofs.Ytnnnilpgnjndlaa
open Go.RowKit
set_option maxHeartbeats 2000000
set_option maxRecDepth 100000
set_option linter.unusedVariables false

theorem shipPut_mark (w : World) :
    Calls Try.prog 10 #[.agg #[.int .i64 7, .int .i64 4, .int .i64 3, .string ByteArray.empty, .int .i64 0, .slice none 0 0, .int .i64 0, .int .i64 0, .int .i64 0]] w fun e w' => e = .returned (.tuple #[.string ⟨(beBytes 4 7 ++ markL).toArray⟩, .int .i64 0]) ∧ Below w.heap.size w w' := by
  have hp := put_mark (w.alloc (.cells #[.int .i64 7, .int .i64 4, .int .i64 3, .string ByteArray.empty, .int .i64 0, .slice none 0 0, .int .i64 0, .int .i64 0, .int .i64 0] 33))
  have hml := markL_length
  have hb4 : (beBytes 4 7).length = 4 := beBytes_length _ _
  generalize markL = M at hp hml ⊢
  have hm46 : M.length ≤ 46 := by omega
  have hb44 : (beBytes 4 7).length ≤ 4 := by omega
  clear hml hb4
  have Hp := Lib.hid hp; clear hp
  go_enter Try.func10, Try.ntmps10
  go_wp2_with fail
  refine Hp.out.mono ?_
  rintro e w1 ⟨rfl, hb1⟩
  have hB := (BlkIs.new w 33 #[.int .i64 7, .int .i64 4, .int .i64 3, .string ByteArray.empty, .int .i64 0, .slice none 0 0, .int .i64 0, .int .i64 0, .int .i64 0]).below hb1 (by simp)
  have hbw1 : Below w.heap.size w w1 := ((Below.refl _ _).alloc (Nat.le_refl _) _).trans (hb1.mono (by simp))
  have hlt : w.heap.size < w1.heap.size := hB.lt
  have hc0 := hB.cell 0
  simp at hc0
  clear hB hb1
  go_wp2_with fail
  refine (u32_ok w1.heap.size w1.heap.size 7 [] _ (by exact out_new0 w1) (by simp <;> omega) (by simp) (by omega)).mono ?_
  rintro e w2 ⟨rfl, ho2, hb2⟩
  have Ho2 := Lib.hid ho2; clear ho2
  go_wp2_with fail
  refine (done_ok w1.heap.size w1.heap.size _ _ (by exact Ho2.out)).mono ?_
  rintro e w3 ⟨rfl, rfl⟩
  have hb12 : Below w1.heap.size w1 w2 := ((Below.refl _ _).alloc (Nat.le_refl _) _).trans hb2
  have hfin : (⟨(beBytes 4 7).toArray⟩ ++ ⟨M.toArray⟩ : ByteArray) = ⟨(beBytes 4 7 ++ M).toArray⟩ := by rw [str_append]
  have Hfin := Lib.hid hfin; clear hfin
  go_wp2_with fail
  all_goals first
    | (exfalso; omega)
    | (go_ret2
       exact ⟨by rw [← Hfin.out]; rfl, hbw1.trans (hb12.mono hbw1.size)⟩)

theorem shipGet_mark (w : World) :
    Calls Try.prog 12 #[.string ⟨(beBytes 4 7 ++ markL).toArray⟩] w fun e w' => e = .returned (.tuple #[.agg #[.int .i64 7, .int .i64 4, .int .i64 3, .string ByteArray.empty, .int .i64 0, .slice none 0 0, .int .i64 0, .int .i64 0, .int .i64 0], .int .i64 0]) ∧ Below w.heap.size w w' := by
  have hg := fun w => get_mark w
  have hml := markL_length
  have hx : (⟨(beBytes 4 7 ++ markL).toArray⟩ : ByteArray).extract 4 (beBytes 4 7 ++ markL).length = ⟨markL.toArray⟩ := by
    rw [← size_mk (beBytes 4 7 ++ markL), str_from]
    exact congrArg (fun l : List UInt8 => (⟨l.toArray⟩ : ByteArray)) (List.drop_left' (beBytes_length 4 7))
  have hn : inNum 4 (beBytes 4 7 ++ markL) 0 = 7 := by unfold inNum; rw [inTake_app _ _ 4 (beBytes_length _ _)]; exact beVal_beBytes 4 7 (by decide)
  have hl : (beBytes 4 7 ++ markL).length = 50 := by rw [List.length_append, beBytes_length, hml]
  generalize hL : beBytes 4 7 ++ markL = L at hx hn hl ⊢
  generalize markL = M at hg hx hml
  have Hg := Lib.hid hg; have Hx := Lib.hid hx; have Hn := Lib.hid hn; have Hl := Lib.hid hl
  have hls : L.length ≤ 50 := by omega
  have hl4 : (4 : Int) ≤ (L.length : Int) := by omega
  clear hg hx hn hl hL hml
  go_enter Try.func12, Try.ntmps12
  go_wp2_with fail
  refine (newIn_any ⟨L.toArray⟩ _ (by rw [size_mk]; omega)).mono ?_
  rintro e w1 ⟨g, rfl, hi1, hb1⟩
  have hr1 := (BlkIs.new w 33 #[.int .i64 0, .int .i64 0, .int .i64 0, .string ByteArray.empty, .int .i64 0, .slice none 0 0, .int .i64 0, .int .i64 0, .int .i64 0]).below hb1 (by simp)
  have hbw1 : Below w.heap.size w w1 := ((Below.refl _ _).alloc (Nat.le_refl _) _).trans (hb1.mono (by simp))
  have Hi1 : Hid (InIs w1 (w.heap.size + 1) g L 0) := Lib.hid (by rw [show w.heap.size + 1 = (w.alloc (.cells #[.int .i64 0, .int .i64 0, .int .i64 0, .string ByteArray.empty, .int .i64 0, .slice none 0 0, .int .i64 0, .int .i64 0, .int .i64 0] 33)).heap.size from by simp]; exact hi1)
  have Hr1 := Lib.hid hr1
  clear hi1 hr1 hb1
  go_wp2_with fail
  have c0 := inU32_any g (w.heap.size + 1) L 0 w1 Hi1.out (by omega)
  rw [Hn.out] at c0
  refine c0.mono ?_
  rintro e w2 ⟨rfl, hi2, hb2⟩
  clear hi2 c0
  go_wp2_with fail
  rw [Hx.out]
  refine (Hg.out _).mono ?_
  rintro e w3 ⟨rfl, hb3⟩
  have hr2 := Hr1.out.below hb2 (by omega)
  have hr3 := hr2.below hb3 hr2.lt
  have hbw2 := hbw1.trans (hb2.mono (by omega))
  have hbw3 := hbw2.trans (hb3.mono hbw2.size)
  have hz3 : w.heap.size < w3.heap.size := hr3.lt
  have hcr := hr3.cell
  have hfr := hr3.free
  have Hr3 := Lib.hid hr3; have Hb3 := Lib.hid hbw3
  clear hr2 hr3 hb2 hb3 hbw3
  go_wp2_with fail
  obtain ⟨W, hW⟩ : ∃ W : World, W = ((((((((((w3.setCell ⟨w.heap.size, 0, none⟩ (.int .i64 7)).setCell ⟨w.heap.size, 1, none⟩ (.int .i64 4)).setCell ⟨w.heap.size, 2, none⟩ (.int .i64 3)).setCell ⟨w.heap.size, 3, none⟩ (.string ByteArray.empty)).setCell ⟨w.heap.size, 4, none⟩ (.int .i64 0)).setCell ⟨w.heap.size, 5, none⟩ (.slice none 0 0)).setCell ⟨w.heap.size, 6, none⟩ (.int .i64 0)).setCell ⟨w.heap.size, 7, none⟩ (.int .i64 0)).setCell ⟨w.heap.size, 8, none⟩ (.int .i64 0))).alloc (.cells #[.int .i64 4, .int .i64 3, .string ByteArray.empty, .int .i64 0, .slice none 0 0, .int .i64 0, .int .i64 0, .int .i64 0] 26) := ⟨_, rfl⟩
  rw [← hW]
  have hF : BlkIs W w.heap.size 33 #[.int .i64 7, .int .i64 4, .int .i64 3, .string ByteArray.empty, .int .i64 0, .slice none 0 0, .int .i64 0, .int .i64 0, .int .i64 0] := by rw [hW]; exact ((((((((((Hr3.out.put 0 (.int .i64 7)).put 1 (.int .i64 4)).put 2 (.int .i64 3)).put 3 (.string ByteArray.empty)).put 4 (.int .i64 0)).put 5 (.slice none 0 0)).put 6 (.int .i64 0)).put 7 (.int .i64 0)).put 8 (.int .i64 0))).alloc _
  have hBW : Below w.heap.size w W := by rw [hW]; exact ((((((((((Hb3.out.setCell (p := ⟨w.heap.size, 0, none⟩) (Nat.le_refl _) (.int .i64 7)).setCell (p := ⟨w.heap.size, 1, none⟩) (Nat.le_refl _) (.int .i64 4)).setCell (p := ⟨w.heap.size, 2, none⟩) (Nat.le_refl _) (.int .i64 3)).setCell (p := ⟨w.heap.size, 3, none⟩) (Nat.le_refl _) (.string ByteArray.empty)).setCell (p := ⟨w.heap.size, 4, none⟩) (Nat.le_refl _) (.int .i64 0)).setCell (p := ⟨w.heap.size, 5, none⟩) (Nat.le_refl _) (.slice none 0 0)).setCell (p := ⟨w.heap.size, 6, none⟩) (Nat.le_refl _) (.int .i64 0)).setCell (p := ⟨w.heap.size, 7, none⟩) (Nat.le_refl _) (.int .i64 0)).setCell (p := ⟨w.heap.size, 8, none⟩) (Nat.le_refl _) (.int .i64 0))).alloc (by simp [World.setCell] <;> omega) _
  have hFc := hF.cell
  clear hW hcr hfr hF
  refine bodyPost_ret (v := .tuple #[.agg #[.int .i64 7, .int .i64 4, .int .i64 3, .string ByteArray.empty, .int .i64 0, .slice none 0 0, .int .i64 0, .int .i64 0, .int .i64 0], .int .i64 0]) ?_ rfl ⟨rfl, hBW⟩
  simp [results, Try.results12, go_sem, hFc]

theorem alive22_any (w : World) :
    Calls Try.prog 9 #[] w fun e w' => e = .returned (.bool true) ∧ Below w.heap.size w w' := by
  have j1 : joinI [1, 1, 2] 1 [1, 3] = (2, 1) := by decide
  have a1 : agreedI 3 [1, 1, 2] 2 [3, 3, 0] = 3 := by decide
  have a2 : agreedI 3 [1, 1, 2] 1 [3, 3, 0] = 2 := by decide
  have hsp := fun w => shipPut_mark w
  have hsg := fun w => shipGet_mark w
  generalize beBytes 4 7 ++ markL = L at hsp hsg
  have J1 := Lib.hid j1; have A1 := Lib.hid a1; have A2 := Lib.hid a2; have Hsp := Lib.hid hsp; have Hsg := Lib.hid hsg
  clear j1 a1 a2 hsp hsg
  go_enter Try.func9, Try.ntmps9
  go_wp2_with fail
  refine (join_any _ _ 3 2 3 2 _ _ [1, 1, 2] [1, 3] 1 _ (by exact (SlR.new w _ rfl _ #[.int .i64 1, .int .i64 1, .int .i64 2] rfl).alloc (by simp) _) (by exact SlR.new _ _ (by simp) _ #[.int .i64 1, .int .i64 3] rfl) (by omega) (by omega)).mono ?_
  rintro e w1 ⟨rfl, rfl⟩
  rw [J1.out]
  go_wp2_with fail
  refine (Hsp.out _).mono ?_
  rintro e w2 ⟨rfl, hb2⟩
  have hbw2 : Below w.heap.size w w2 := (((Below.refl _ _).alloc (Nat.le_refl _) _).alloc (by simp) _).trans (hb2.mono (by simp <;> omega))
  clear hb2
  go_wp2_with fail
  refine (Hsg.out _).mono ?_
  rintro e w3 ⟨rfl, hb3⟩
  have hbw3 := hbw2.trans (hb3.mono hbw2.size)
  have hbc := hbw3.alloc hbw3.size (.cells #[.int .i64 7, .int .i64 4, .int .i64 3, .string ByteArray.empty, .int .i64 0, .slice none 0 0, .int .i64 0, .int .i64 0, .int .i64 0] 33)
  have Hbc := Lib.hid hbc
  have hz := hbw3.size
  clear hb3 hbc
  have tok1 : True := trivial
  go_wp2_with (first
    | (have _t := tok1; clear tok1 _t; go_at_call 17; refine (agreed_any _ _ 3 3 3 3 _ _ [1, 1, 2] [3, 3, 0] 3 2 _ (by exact (SlR.new _ _ (by simp) _ #[.int .i64 1, .int .i64 1, .int .i64 2] rfl).alloc (by simp) _) (by exact SlR.new _ _ (by simp) _ #[.int .i64 3, .int .i64 3, .int .i64 0] rfl) (by omega) (by omega) (by omega) (by omega)).mono ?_; rintro e w4 ⟨rfl, rfl⟩; rw [A1.out])
    | (go_at_call 17; refine (agreed_any _ _ 3 3 3 3 _ _ [1, 1, 2] [3, 3, 0] 3 1 _ (by exact (SlR.new _ _ (by simp) _ #[.int .i64 1, .int .i64 1, .int .i64 2] rfl).alloc (by simp) _) (by exact SlR.new _ _ (by simp) _ #[.int .i64 3, .int .i64 3, .int .i64 0] rfl) (by omega) (by omega) (by omega) (by omega)).mono ?_; rintro e w5 ⟨rfl, rfl⟩; rw [A2.out]))
  go_ret
  refine ⟨rfl, ?_⟩
  repeat (first | exact Hbc.out | refine Below.alloc ?_ (by simp <;> omega) _)
end Go.Proofs.Ytnnnilpgnjndlaa
