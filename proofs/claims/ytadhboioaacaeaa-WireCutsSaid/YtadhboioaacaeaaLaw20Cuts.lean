/- chapter 20: WireCuts, walked. -/
import Derived.Test.YtadhboioaacaeaaLaw20
namespace Go.Proofs.Ytadhboioaacaeaa
open Go.RowKit
set_option maxHeartbeats 2000000
set_option maxRecDepth 100000
set_option linter.unusedVariables false

theorem wireCuts_any (a b c : Int) (data : ByteArray) (W : World) (ha : -9223372036854775808 ≤ a ∧ a ≤ 9223372036854775807) (hb : -9223372036854775808 ≤ b ∧ b ≤ 9223372036854775807) (hc : -9223372036854775808 ≤ c ∧ c ≤ 9223372036854775807)
    (hs : data.size ≤ 9223372036854775807) : Calls Try.prog 4 #[.int .i64 a, .int .i64 b, .int .i64 c, .string data] W fun e w' => e = .returned (.bool true) ∧ Below W.heap.size W w' := by
  by_cases c1 : 300 < data.size
  · have d1 : decide ((300 : Int) < (data.size : Int)) = true := by simp; omega
    clear ha hb hc
    go_enter Try.func4, Try.ntmps4
    go_wp2_with fail
    refine (alive20_any _).mono ?_
    rintro e w1 ⟨rfl, hb1⟩
    go_wp2_with fail
    go_ret
    exact ⟨rfl, hb1⟩
  have d1 : decide ((300 : Int) < (data.size : Int)) = false := by simp; omega
  have c1 : data.size ≤ 300 := by omega
  by_cases c2 : a = b
  · have d2 : (a == b) = true := by simpa using c2
    clear ha hb hc c2
    go_enter Try.func4, Try.ntmps4
    go_wp2_with fail
    refine (alive20_any _).mono ?_
    rintro e w1 ⟨rfl, hb1⟩
    go_wp2_with fail
    go_ret
    exact ⟨rfl, hb1⟩
  have d2 : (a == b) = false := by simpa using c2
  by_cases c3 : b = c
  · have d3 : (b == c) = true := by simpa using c3
    clear ha hb hc c2 c3
    go_enter Try.func4, Try.ntmps4
    go_wp2_with fail
    refine (alive20_any _).mono ?_
    rintro e w1 ⟨rfl, hb1⟩
    go_wp2_with fail
    go_ret
    exact ⟨rfl, hb1⟩
  have d3 : (b == c) = false := by simpa using c3
  by_cases c4 : a = c
  · have d4 : (a == c) = true := by simpa using c4
    clear ha hb hc c2 c3 c4
    go_enter Try.func4, Try.ntmps4
    go_wp2_with fail
    refine (alive20_any _).mono ?_
    rintro e w1 ⟨rfl, hb1⟩
    go_wp2_with fail
    go_ret
    exact ⟨rfl, hb1⟩
  have d4 : (a == c) = false := by simpa using c4
  obtain ⟨C0, hC0⟩ : ∃ C : Int → Int → Bool, C = fun _ _ => false := ⟨_, rfl⟩
  obtain ⟨C1, hC1⟩ : ∃ C, C = cutC C0 a b true := ⟨_, rfl⟩
  obtain ⟨C2, hC2⟩ : ∃ C, C = cutC C1 b a false := ⟨_, rfl⟩
  have g1 : C1 (min a b) (max a b) = true := by rw [hC1]; simp [cutC]
  have g2 : C1 (min b a) (max b a) = true := by rw [Int.min_comm b a, Int.max_comm b a]; exact g1
  have g3 : C1 (min a c) (max a c) = false := by rw [hC1, hC0]; unfold cutC; rw [if_neg]; omega
  have g4 : C1 (min c b) (max c b) = false := by rw [hC1, hC0]; unfold cutC; rw [if_neg]; omega
  have g5 : C2 (min a b) (max a b) = false := by rw [hC2]; unfold cutC; rw [if_pos]; omega
  have f1 : sendS C1 [] [(a, b, data)] = ([], 0) := by simp [sendS, putL, putB, g1]
  have f2 : sendS C1 [] [(b, a, data)] = ([], 0) := by simp [sendS, putL, putB, g2]
  have f3 : sendS C1 [] [(a, c, data), (c, b, data)] = ([(a, c, data), (c, b, data)], 2) := by simp [sendS, putL, putB, g3, g4]
  have f4 : sendS C2 [(a, c, data), (c, b, data)] [(a, b, data)] = ([(a, c, data), (c, b, data), (a, b, data)], 1) := by simp [sendS, putL, putB, g5]
  have oab : PkOk (a, b, data) := ⟨ha, hb⟩
  have oba : PkOk (b, a, data) := ⟨hb, ha⟩
  have oac : PkOk (a, c, data) := ⟨ha, hc⟩
  have ocb : PkOk (c, b, data) := ⟨hc, hb⟩
  have Ha := Lib.hid ha; have Hb := Lib.hid hb
  have F1 := Lib.hid f1; have F2 := Lib.hid f2; have F3 := Lib.hid f3; have F4 := Lib.hid f4; have HC0 := Lib.hid hC0; have HC1 := Lib.hid hC1; have HC2 := Lib.hid hC2
  have Oab := Lib.hid oab; have Oba := Lib.hid oba; have Oac := Lib.hid oac; have Ocb := Lib.hid ocb
  clear ha hb hc c2 c3 c4 g1 g2 g3 g4 g5 f1 f2 f3 f4 hC0 hC1 hC2 oab oba oac ocb
  go_enter Try.func4, Try.ntmps4
  go_wp2_with fail
  refine (new_any _).mono ?_
  rintro e w1 ⟨rfl, hn1, hb1⟩
  obtain ⟨S1, N1⟩ := NetAt.made hn1 hb1
  clear hn1 hb1
  rw [← HC0.out] at N1
  go_wp2_with fail
  refine (cut_any S1 _ 0 [] _ a b true _ N1.is (by omega) Ha.out Hb.out).mono ?_
  rw [← HC1.out]
  rintro e w2 ⟨rfl, hs2⟩
  obtain ⟨S2, N2⟩ := N1.step hs2
  clear hs2
  go_wp2_with fail
  refine (send_new N2 [(a, b, data)] _ rfl (by simpa using Oab.out) (by simp) _ _ rfl).mono ?_
  rw [F1.out]
  rintro e w3 ⟨rfl, S3, N3⟩
  go_wp2_with fail
  refine (send_new N3 [(b, a, data)] _ rfl (by simpa using Oba.out) (by simp) _ _ rfl).mono ?_
  rw [F2.out]
  rintro e w4 ⟨rfl, S4, N4⟩
  go_wp2_with fail
  refine (send_new N4 [(a, c, data), (c, b, data)] _ rfl (by simpa using ⟨Oac.out, Ocb.out⟩) (by simp) _ _ rfl).mono ?_
  rw [F3.out]
  rintro e w5 ⟨rfl, S5, N5⟩
  go_wp2_with fail
  refine (cut_any S5 _ 1 _ _ b a false _ N5.is (by omega) Hb.out Ha.out).mono ?_
  rw [← HC2.out]
  rintro e w6 ⟨rfl, hs6⟩
  obtain ⟨S6, N6⟩ := N5.step hs6
  clear hs6
  go_wp2_with fail
  refine (send_new N6 [(a, b, data)] _ rfl (by simpa using Oab.out) (by simp) _ _ rfl).mono ?_
  rw [F4.out]
  rintro e w7 ⟨rfl, S7, N7⟩
  go_wp2_with fail
  refine (alive20_any _).mono ?_
  rintro e w8 ⟨rfl, hb8⟩
  have N8 := N7.under hb8
  clear hb8
  go_wp2_with fail
  refine (len_any S7 _ _ _ _ _ N8.is).mono ?_
  rintro e w9 ⟨rfl, rfl⟩
  go_wp2_with fail
  refine (clear_any S7 _ _ _ _ _ N8.is).mono ?_
  rintro e w9 ⟨rfl, hs9⟩
  obtain ⟨S9, N9⟩ := N8.step hs9
  clear hs9
  go_wp2_with fail
  refine (len_any S9 _ _ _ _ _ N9.is).mono ?_
  rintro e w10 ⟨rfl, rfl⟩
  go_wp2_with fail
  go_ret
  exact ⟨rfl, N9.bel⟩
end Go.Proofs.Ytadhboioaacaeaa
