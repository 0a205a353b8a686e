/- package event: the command that marks a time, got back. -/
import Derived.Test.YtnnnilpgnjndlaaCShipBytesMark2
import Derived.Test.YtnnnilpgnjndlaaCShipBytesInG64

namespace Go.Proofs.Ytnnnilpgnjndlaa
open Go.RowKit
set_option maxHeartbeats 1000000
set_option maxRecDepth 100000
set_option linter.unusedVariables false

theorem get_mark (w : World) :
    Calls Try.prog 35 #[.string ⟨markL.toArray⟩] w fun e w' => e = .returned (.tuple #[.agg #[.int .i64 4, .int .i64 3, .string ByteArray.empty, .int .i64 0, .slice none 0 0, .int .i64 0, .int .i64 0, .int .i64 0], .int .i64 0]) ∧ Below w.heap.size w w' := by
  obtain ⟨R7, h7⟩ : ∃ R, R = be64 0 ++ [] := ⟨_, rfl⟩
  obtain ⟨R6, h6⟩ : ∃ R, R = be64 0 ++ R7 := ⟨_, rfl⟩
  obtain ⟨R5, h5⟩ : ∃ R, R = be64 0 ++ R6 := ⟨_, rfl⟩
  obtain ⟨R4, h4⟩ : ∃ R, R = beBytes 1 0 ++ R5 := ⟨_, rfl⟩
  obtain ⟨R3, h3⟩ : ∃ R, R = be64 0 ++ R4 := ⟨_, rfl⟩
  obtain ⟨R2, h2⟩ : ∃ R, R = textL [] ++ R3 := ⟨_, rfl⟩
  obtain ⟨R1, h1⟩ : ∃ R, R = be64 3 ++ R2 := ⟨_, rfl⟩
  have h0 : markL = beBytes 1 4 ++ R1 := by rw [h1, h2, h3, h4, h5, h6, h7]; unfold markL; simp
  have hml := markL_length
  have e0 : inTake 1 markL 0 = (beBytes 1 4, R1, 0) := by rw [h0]; exact inTake_app _ _ 1 (beBytes_length _ _)
  have e1 : inTake 8 R1 0 = (be64 3, R2, 0) := by rw [h1]; exact inTake_app _ _ 8 (be64_length _)
  have e2 : inText 60 R2 0 = ([], R3, 0) := by rw [h2]; exact inText_app [] _ 60 (by decide) (by decide)
  have e3 : inTake 8 R3 0 = (be64 0, R4, 0) := by rw [h3]; exact inTake_app _ _ 8 (be64_length _)
  have e4 : inTake 1 R4 0 = (beBytes 1 0, R5, 0) := by rw [h4]; exact inTake_app _ _ 1 (beBytes_length _ _)
  have e5 : inTake 8 R5 0 = (be64 0, R6, 0) := by rw [h5]; exact inTake_app _ _ 8 (be64_length _)
  have e6 : inTake 8 R6 0 = (be64 0, R7, 0) := by rw [h6]; exact inTake_app _ _ 8 (be64_length _)
  have e7 : inTake 8 R7 0 = (be64 0, [], 0) := by rw [h7]; exact inTake_app _ _ 8 (be64_length _)
  have n0 : inNum 1 markL 0 = 4 := by unfold inNum; rw [e0]; exact beVal_beBytes 1 4 (by decide)
  have n4 : inNum 1 R4 0 = 0 := by unfold inNum; rw [e4]; exact beVal_beBytes 1 0 (by decide)
  have v3 : i64L (be64 3) = 3 := i64L_be64 3 (by decide)
  have v0 : i64L (be64 0) = 0 := i64L_be64 0 (by decide)
  have s7 : R7.length ≤ 46 := by rw [h7]; simp [be64_length]
  have s6 : R6.length ≤ 46 := by rw [h6, h7]; simp [be64_length]
  have s5 : R5.length ≤ 46 := by rw [h5, h6, h7]; simp [be64_length]
  have s4 : R4.length ≤ 46 := by rw [h4, h5, h6, h7]; simp [be64_length, beBytes_length]
  have s3 : R3.length ≤ 46 := by rw [h3, h4, h5, h6, h7]; simp [be64_length, beBytes_length]
  have s2 : R2.length ≤ 46 := by rw [h2, h3, h4, h5, h6, h7]; simp [be64_length, beBytes_length, textL_length]
  have s1 : R1.length ≤ 46 := by have := congrArg List.length h0; rw [hml, List.length_append, beBytes_length] at this; omega
  have ml : markL.length ≤ 46 := by omega
  have E0 := Lib.hid e0; have E1 := Lib.hid e1; have E2 := Lib.hid e2; have E3 := Lib.hid e3; have E4 := Lib.hid e4; have E5 := Lib.hid e5; have E6 := Lib.hid e6; have E7 := Lib.hid e7
  have N0 := Lib.hid n0; have N4 := Lib.hid n4; have V3 := Lib.hid v3; have V0 := Lib.hid v0
  clear h0 h1 h2 h3 h4 h5 h6 h7 e0 e1 e2 e3 e4 e5 e6 e7 n0 n4 v3 v0 hml
  have hdec : (markL == markL) = true := by simp
  generalize hM : markL = M at *
  have HM := Lib.hid hM
  clear hM
  go_enter Try.func35, Try.ntmps35
  go_wp2_with fail
  refine (newIn_any ⟨M.toArray⟩ _ (by rw [size_mk]; omega)).mono ?_
  rintro e w1 ⟨g, rfl, hi1, hb1⟩
  have hr1 := (BlkIs.new w 26 #[.int .i64 0, .int .i64 0, .string ByteArray.empty, .int .i64 0, .slice none 0 0, .int .i64 0, .int .i64 0, .int .i64 0]).below hb1 (by simp)
  have hbw1 : Below w.heap.size w w1 := ((Below.refl _ _).alloc (Nat.le_refl _) _).trans (hb1.mono (by simp))
  have hz1 : w.heap.size < w1.heap.size := hr1.lt
  have Hi1 : Hid (InIs w1 (w.heap.size + 1) g M 0) := Lib.hid (by rw [show w.heap.size + 1 = (w.alloc (.cells #[.int .i64 0, .int .i64 0, .string ByteArray.empty, .int .i64 0, .slice none 0 0, .int .i64 0, .int .i64 0, .int .i64 0] 26)).heap.size from by simp]; exact hi1)
  have Hr1 := Lib.hid hr1
  have hg0 : w.heap.size + 1 ≤ g := Hi1.out.1
  clear hi1 hr1 hb1
  go_wp2_with fail
  have c0 := inU8_any g (w.heap.size + 1) M 0 w1 Hi1.out (by omega)
  rw [E0.out, N0.out] at c0
  refine c0.mono ?_
  rintro e w2 ⟨rfl, hi2, hb2⟩
  have Hi2 := Lib.hid hi2; clear hi2 c0
  go_wp2_with fail
  have c1 := inI64_any g (w.heap.size + 1) R1 0 w2 Hi2.out (by omega)
  rw [E1.out, V3.out] at c1
  refine c1.mono ?_
  rintro e w3 ⟨rfl, hi3, hb3⟩
  have Hi3 := Lib.hid hi3; clear hi3 c1
  go_wp2_with fail
  have c2 := inTextC_any g (w.heap.size + 1) 60 R2 0 w3 Hi3.out (by omega) (by omega)
  rw [E2.out] at c2
  refine c2.mono ?_
  rintro e w4 ⟨rfl, hi4, hb4⟩
  have Hi4 := Lib.hid hi4; clear hi4 c2
  go_wp2_with fail
  have c3 := inI64_any g (w.heap.size + 1) R3 0 w4 Hi4.out (by omega)
  rw [E3.out, V0.out] at c3
  refine c3.mono ?_
  rintro e w5 ⟨rfl, hi5, hb5⟩
  have hb25 := ((hb2.trans hb3).trans hb4).trans hb5
  have hr5 := (Hr1.out.below hb25 (by omega)).alloc (.cells #[.int .i64 4, .int .i64 3, .string ByteArray.empty, .int .i64 0, .slice none 0 0, .int .i64 0, .int .i64 0, .int .i64 0] 26)
  have hbw5 := hbw1.trans (hb25.mono (by omega))
  have hi5' := hi5.alloc (.cells #[.int .i64 4, .int .i64 3, .string ByteArray.empty, .int .i64 0, .slice none 0 0, .int .i64 0, .int .i64 0, .int .i64 0] 26)
  have hX := BlkIs.new w5 26 #[.int .i64 4, .int .i64 3, .string ByteArray.empty, .int .i64 0, .slice none 0 0, .int .i64 0, .int .i64 0, .int .i64 0]
  have hgl : g < w5.heap.size := hi5.lt
  have hz5 : w.heap.size < w5.heap.size := by omega
  have hbX := hbw5.alloc hbw5.size (.cells #[.int .i64 4, .int .i64 3, .string ByteArray.empty, .int .i64 0, .slice none 0 0, .int .i64 0, .int .i64 0, .int .i64 0] 26)
  have Hi5 := Lib.hid hi5'; have HX5 := Lib.hid hX; have Hr5 := Lib.hid hr5; have HbX := Lib.hid hbX
  clear hi5 hi5' hX hr5 hbX hb2 hb3 hb4 hb5 c3
  go_wp2_with fail
  have c4 := inU8G g (w.heap.size + 1) R4 0 _ Hi5.out (by omega)
  rw [E4.out, N4.out] at c4
  refine c4.mono ?_
  rintro e w6 ⟨rfl, hi6, hg6⟩
  have hX6 := HX5.out.keptBy hg6 (by omega)
  have hr6 := Hr5.out.keptBy hg6 (by omega)
  have hb6 := HbX.out.grown hg6 (by have := HbX.out.size; exact this) (fun q hq => by simp at hq; omega)
  have Hi6 := Lib.hid hi6; have HX6 := Lib.hid hX6; have Hr6 := Lib.hid hr6; have Hb6 := Lib.hid hb6
  clear hi6 hX6 hr6 hg6 hb6 c4
  go_wp2_with fail
  refine wp_loop_rounds 1 ?_
  rw [rounds_succ]
  go_wp2_with fail
  have c5 := inI64G g (w.heap.size + 1) R5 0 w6 Hi6.out (by omega)
  rw [E5.out, V0.out] at c5
  refine c5.mono ?_
  rintro e w7 ⟨rfl, hi7, hg7⟩
  have Hi7 := Lib.hid hi7
  clear hi7 c5
  go_wp2_with fail
  have c6 := inI64G g (w.heap.size + 1) R6 0 w7 Hi7.out (by omega)
  rw [E6.out, V0.out] at c6
  refine c6.mono ?_
  rintro e w8 ⟨rfl, hi8, hg8⟩
  have Hi8 := Lib.hid hi8
  clear hi8 c6
  go_wp2_with fail
  have c7 := inI64G g (w.heap.size + 1) R7 0 w8 Hi8.out (by omega)
  rw [E7.out, V0.out] at c7
  refine c7.mono ?_
  rintro e w9 ⟨rfl, hi9, hg9⟩
  have hg69 := grown_two (grown_two hg7 hg8) hg9
  have hX9 := HX6.out.keptBy hg69 (by omega)
  have hr9 := Hr6.out.keptBy hg69 (by omega)
  have hb9 := Hb6.out.grown hg69 (by have := Hb6.out.size; exact this) (fun q hq => by simp at hq; omega)
  have hcX := hX9.cell
  have hfX := hX9.free
  have Hi9 := Lib.hid hi9; have HX9 := Lib.hid hX9; have Hr9 := Lib.hid hr9; have Hb9 := Lib.hid hb9
  clear hi9 hX9 hr9 hg7 hg8 hg9 hg69 hb9 c7
  have hX10 : BlkIs (((w9.setCell ⟨w5.heap.size, 5, none⟩ (.int .i64 0)).setCell ⟨w5.heap.size, 6, none⟩ (.int .i64 0)).setCell ⟨w5.heap.size, 7, none⟩ (.int .i64 0)) w5.heap.size 26 #[.int .i64 4, .int .i64 3, .string ByteArray.empty, .int .i64 0, .slice none 0 0, .int .i64 0, .int .i64 0, .int .i64 0] := ((HX9.out.put 5 (.int .i64 0)).put 6 (.int .i64 0)).put 7 (.int .i64 0)
  have hi10 : InIs (((w9.setCell ⟨w5.heap.size, 5, none⟩ (.int .i64 0)).setCell ⟨w5.heap.size, 6, none⟩ (.int .i64 0)).setCell ⟨w5.heap.size, 7, none⟩ (.int .i64 0)) (w.heap.size + 1) g [] 0 :=
    ⟨Hi9.out.1, ((Hi9.out.2.far (p := ⟨w5.heap.size, 5, none⟩) (by simp <;> omega) _).far (p := ⟨w5.heap.size, 6, none⟩) (by simp <;> omega) _).far (p := ⟨w5.heap.size, 7, none⟩) (by simp <;> omega) _⟩
  have hr10 := ((Hr9.out.far (p := ⟨w5.heap.size, 5, none⟩) (by simp <;> omega) (.int .i64 0)).far (p := ⟨w5.heap.size, 6, none⟩) (by simp <;> omega) (.int .i64 0)).far (p := ⟨w5.heap.size, 7, none⟩) (by simp <;> omega) (.int .i64 0)
  have hb10 := ((Hb9.out.setCell (p := ⟨w5.heap.size, 5, none⟩) (by simp <;> omega) (.int .i64 0)).setCell (p := ⟨w5.heap.size, 6, none⟩) (by simp <;> omega) (.int .i64 0)).setCell (p := ⟨w5.heap.size, 7, none⟩) (by simp <;> omega) (.int .i64 0)
  have HX10 := Lib.hid hX10; have Hi10 := Lib.hid hi10; have Hr10 := Lib.hid hr10; have Hb10 := Lib.hid hb10
  clear hX10 hi10 hr10 hb10
  go_wp2_with fail
  refine (inEnd_any g (w.heap.size + 1) [] 0 _ Hi10.out (by simp)).mono ?_
  rintro e w11 ⟨rfl, hg11, hb11⟩
  rw [show endL [] 0 = 0 from rfl]
  have hX11 := HX10.out.keptBy hg11 (by omega)
  have hr11 := Hr10.out.keptBy hg11 (by omega)
  have hbb11 := Hb10.out.grown hg11 (by have := Hb10.out.size; exact this) (fun q hq => by simp at hq; omega)
  have hcX2 := hX11.cell
  have HX11 := Lib.hid hX11; have Hr11 := Lib.hid hr11; have Hb11 := Lib.hid hbb11
  clear hX11 hr11 hbb11 hg11 hb11 hcX hfX
  go_wp2_with fail
  refine (put_mark _).mono ?_
  rintro e w12 ⟨rfl, hb12⟩
  rw [HM.out]
  have hX12 := HX11.out.below hb12 HX11.out.lt
  have hr12 := Hr11.out.below hb12 Hr11.out.lt
  have hcX3 := hX12.cell
  have hcr := hr12.cell
  have hfr := hr12.free
  have hbb12 := Hb11.out.trans (hb12.mono Hb11.out.size)
  have Hb12 := Lib.hid hbb12; have Hr12 := Lib.hid hr12
  clear hX12 hr12 hb12 hcX2 hbb12
  go_wp2_with fail
  obtain ⟨W, hW⟩ : ∃ W : World, W = ((((((((w12.setCell ⟨w.heap.size, 0, none⟩ (.int .i64 4)).setCell ⟨w.heap.size, 1, none⟩ (.int .i64 3)).setCell ⟨w.heap.size, 2, none⟩ (.string ByteArray.empty)).setCell ⟨w.heap.size, 3, none⟩ (.int .i64 0)).setCell ⟨w.heap.size, 4, none⟩ (.slice none 0 0)).setCell ⟨w.heap.size, 5, none⟩ (.int .i64 0)).setCell ⟨w.heap.size, 6, none⟩ (.int .i64 0)).setCell ⟨w.heap.size, 7, none⟩ (.int .i64 0)) := ⟨_, rfl⟩
  rw [← hW]
  have hF : BlkIs W w.heap.size 26 #[.int .i64 4, .int .i64 3, .string ByteArray.empty, .int .i64 0, .slice none 0 0, .int .i64 0, .int .i64 0, .int .i64 0] := by rw [hW]; exact ((((((((Hr12.out.put 0 (.int .i64 4)).put 1 (.int .i64 3)).put 2 (.string ByteArray.empty)).put 3 (.int .i64 0)).put 4 (.slice none 0 0)).put 5 (.int .i64 0)).put 6 (.int .i64 0)).put 7 (.int .i64 0))
  have hBW : Below w.heap.size w W := by rw [hW]; exact ((((((((Hb12.out.setCell (p := ⟨w.heap.size, 0, none⟩) (Nat.le_refl _) (.int .i64 4)).setCell (p := ⟨w.heap.size, 1, none⟩) (Nat.le_refl _) (.int .i64 3)).setCell (p := ⟨w.heap.size, 2, none⟩) (Nat.le_refl _) (.string ByteArray.empty)).setCell (p := ⟨w.heap.size, 3, none⟩) (Nat.le_refl _) (.int .i64 0)).setCell (p := ⟨w.heap.size, 4, none⟩) (Nat.le_refl _) (.slice none 0 0)).setCell (p := ⟨w.heap.size, 5, none⟩) (Nat.le_refl _) (.int .i64 0)).setCell (p := ⟨w.heap.size, 6, none⟩) (Nat.le_refl _) (.int .i64 0)).setCell (p := ⟨w.heap.size, 7, none⟩) (Nat.le_refl _) (.int .i64 0))
  have hFc := hF.cell
  clear hW hcr hfr hcX3 hF
  refine bodyPost_ret (v := .tuple #[.agg #[.int .i64 4, .int .i64 3, .string ByteArray.empty, .int .i64 0, .slice none 0 0, .int .i64 0, .int .i64 0, .int .i64 0], .int .i64 0]) ?_ rfl ⟨rfl, hBW⟩
  simp [results, Try.results35, go_sem, hFc]
end Go.Proofs.Ytnnnilpgnjndlaa
