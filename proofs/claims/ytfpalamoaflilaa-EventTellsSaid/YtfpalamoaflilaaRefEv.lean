/- chronicleref7: an event that may be, laid, taken. -/
import Derived.Test.YtfpalamoaflilaaRefOutT
import Derived.Test.YtfpalamoaflilaaRefInQ
import Derived.Test.YtfpalamoaflilaaEvName
import Derived.Test.YtfpalamoaflilaaEvSame
namespace Go.Proofs.Ytfpalamoaflilaa
open Go.RowKit
set_option maxHeartbeats 4000000
set_option maxRecDepth 100000
set_option linter.unusedVariables false
attribute [local go_sem] run_store_flt

theorem refValid7_any (id : Int) (ty da : ByteArray) (va : Nat) (w : World) (ht : ty.size ≤ 9223372036854775807) (hd : da.size ≤ 9223372036854775807) :
    Calls Try.prog 20 #[.agg #[.int .i64 id, .string ty, .string da, .float .f64 va]] w fun e w' => e = .returned (.bool (validE ⟨id, ty, da, va⟩)) ∧ Below w.heap.size w w' := by
  obtain ⟨W, hW⟩ : ∃ W, w.alloc (.cells #[.int .i64 id, .string ty, .string da, .float .f64 va] 33) = W := ⟨_, rfl⟩
  have hM : BlkIs W w.heap.size 33 #[.int .i64 id, .string ty, .string da, .float .f64 va] := by rw [← hW]; exact BlkIs.new _ _ _
  have hb0 : Below w.heap.size w W := by rw [← hW]; exact (Below.refl _ _).alloc (Nat.le_refl _) _
  have hc := hM.cell
  have hst := fun w => refStream_any ty w ht
  unfold validE
  dsimp only
  have hd2 : ((da.size : Int) ≤ 200 ↔ da.size ≤ 200) := by omega
  by_cases hid : 1 ≤ id
  · have h1 : decide (1 ≤ id) = true := decide_eq_true hid
    rw [h1]
    generalize nameB ty = q at hst ⊢
    have Hst := Lib.hid hst; have HB0 := Lib.hid hb0
    clear hst hM hb0
    go_enter Try.func20, Try.ntmps20
    go_wp2_with fail
    (try rw [hW])
    refine (Hst.out _).mono ?_
    rintro e w1 ⟨rfl, rfl⟩
    cases q with
    | false =>
      go_wp2_with fail
      go_ret
      exact ⟨by simp, HB0.out⟩
    | true =>
      go_wp2_with fail
      go_ret
      exact ⟨by simp, HB0.out⟩
  · have h1 : decide (1 ≤ id) = false := decide_eq_false hid
    rw [h1]
    have HB0 := Lib.hid hb0
    clear hst hM hb0
    go_enter Try.func20, Try.ntmps20
    go_wp2_with fail
    (try rw [hW])
    go_ret
    exact ⟨by simp, HB0.out⟩

theorem refLay7_any (g base : Nat) (id : Int) (ty da : ByteArray) (va : Nat) (bs : List UInt8) (w : World) (h : RoutIs w base g bs 0) (hb : base ≤ w.heap.size) (hl : bs.length ≤ 1000000) (ht : ty.size ≤ 60) (hd : da.size ≤ 200) (hv : va < 18446744073709551616) :
    Calls Try.prog 46 #[.pointer (some ⟨g, 0, none⟩), .agg #[.int .i64 id, .string ty, .string da, .float .f64 va]] w fun e w' =>
      e = .returned (.tuple #[]) ∧ RoutIs w' base g (bs ++ evL ⟨id, ty, da, va⟩) 0 ∧ OutRStep base w w' := by
  obtain ⟨W, hW⟩ : ∃ W, w.alloc (.cells #[.int .i64 id, .string ty, .string da, .float .f64 va] 33) = W := ⟨_, rfl⟩
  have hb0 : Below w.heap.size w W := by rw [← hW]; exact (Below.refl _ _).alloc (Nat.le_refl _) _
  have hM : BlkIs W w.heap.size 33 #[.int .i64 id, .string ty, .string da, .float .f64 va] := by rw [← hW]; exact BlkIs.new _ _ _
  have h0 := h.under hb0 (Nat.le_refl _)
  have hs0 : OutRStep base w W := OutRStep.of_below hb0 hb
  have hbW : base ≤ W.heap.size := Nat.le_trans hb hb0.size
  have hts := size_list ty
  have hds := size_list da
  have hcW := hM.cell
  have HM := Lib.hid hM; have HO := Lib.hid h0; have HS := Lib.hid hs0
  clear hM h0 hs0 h hb0
  go_enter Try.func46, Try.ntmps46
  go_wp2_with fail
  (try rw [hW])
  clear hW
  refine (refNumI_t g base id bs W HO.out hbW (by omega)).mono ?_
  rintro e w1 ⟨rfl, ho1, hb1⟩
  have M1 := Lib.hid (HM.out.typR hb1 (by decide) (by decide)); have O1 := Lib.hid ho1; have S1 := Lib.hid (HS.out.trans hb1)
  have hc1 := M1.out.cell
  have hz1 : base ≤ w1.heap.size := by have := hb1.bel.size; omega
  clear ho1 hb1 hcW
  go_wp2_with fail
  refine (refOutText_t g base _ ty w1 O1.out hz1 (by omega) (by simp only [List.length_append, be64_length]; omega)).mono ?_
  rintro e w2 ⟨rfl, ho2, hb2⟩
  have M2 := Lib.hid (M1.out.typR hb2 (by decide) (by decide)); have O2 := Lib.hid ho2; have S2 := Lib.hid (S1.out.trans hb2)
  have hc2 := M2.out.cell
  have hz2 : base ≤ w2.heap.size := by have := hb2.bel.size; omega
  clear ho2 hb2 hc1
  go_wp2_with fail
  refine (refOutText_t g base _ da w2 O2.out hz2 (by omega) (by simp only [List.length_append, be64_length, textL_length]; omega)).mono ?_
  rintro e w3 ⟨rfl, ho3, hb3⟩
  have M3 := Lib.hid (M2.out.typR hb3 (by decide) (by decide)); have O3 := Lib.hid ho3; have S3 := Lib.hid (S2.out.trans hb3)
  have hc3 := M3.out.cell
  have hz3 : base ≤ w3.heap.size := by have := hb3.bel.size; omega
  clear ho3 hb3 hc2
  go_wp2_with fail
  refine (refFloat_t g base va _ w3 O3.out hz3 (by simp only [List.length_append, be64_length, textL_length]; omega) hv).mono ?_
  rintro e w4 ⟨rfl, ho4, hb4⟩
  have S4 := Lib.hid (S3.out.trans hb4)
  have O4 := Lib.hid ho4
  clear hc3 ho4 hb4
  go_wp2_with fail
  go_end0
  refine ⟨rfl, ?_, S4.out⟩
  have ho := O4.out
  simp only [List.append_assoc] at ho
  exact ho

theorem refTake7_any (g base : Nat) (bs : List UInt8) (x : Int) (w : World) (h : RinQ w base g bs x) :
    Calls Try.prog 55 #[.pointer (some ⟨g, 0, none⟩)] w fun e w' =>
      e = .returned (evA (rdEv bs x).1) ∧ RinQ w' base g (rdEv bs x).2.1 (rdEv bs x).2.2 ∧ w.grownBy w' (some g) := by
  obtain ⟨a0, h0⟩ : ∃ a, inTake 8 bs x = a := ⟨_, rfl⟩
  obtain ⟨a1, h1⟩ : ∃ a, inText 60 a0.2.1 a0.2.2 = a := ⟨_, rfl⟩
  obtain ⟨a2, h2⟩ : ∃ a, inText 200 a1.2.1 a1.2.2 = a := ⟨_, rfl⟩
  obtain ⟨a3, h3⟩ : ∃ a, inTake 8 a2.2.1 a2.2.2 = a := ⟨_, rfl⟩
  have hrd : rdEv bs x = (⟨i64L a0.1, ⟨a1.1.toArray⟩, ⟨a2.1.toArray⟩, canB (beVal a3.1)⟩, a3.2.1, a3.2.2) := by unfold rdEv; simp only [h0, h1, h2, h3]
  have U0 := fun (w : World) (h : RinQ w base g bs x) => refNumQ g base 8 bs x w h (by omega)
  have U1 := fun (w : World) (h : RinQ w base g a0.2.1 a0.2.2) => refTextQ g base 60 _ _ w h (by omega)
  have U2 := fun (w : World) (h : RinQ w base g a1.2.1 a1.2.2) => refTextQ g base 200 _ _ w h (by omega)
  have U3 := fun (w : World) (h : RinQ w base g a2.2.1 a2.2.2) => refFloatQ g base _ _ w h
  rw [h0] at U0; rw [h1] at U1; rw [h2] at U2; rw [h3] at U3
  rw [hrd]
  unfold evA
  dsimp only
  obtain ⟨W, hW⟩ : ∃ W, w.alloc (.cells #[.int .i64 0, .string ⟨#[]⟩, .string ⟨#[]⟩, .float .f64 0] 33) = W := ⟨_, rfl⟩
  have hR : BlkIs W w.heap.size 33 #[.int .i64 0, .string ⟨#[]⟩, .string ⟨#[]⟩, .float .f64 0] := by rw [← hW]; exact BlkIs.new _ _ _
  have hb0 : w.grownBy W (some g) := by rw [← hW]; exact grown_below ((Below.refl _ _).alloc (Nat.le_refl _) _)
  have hI : RinQ W base g bs x := by rw [← hW]; exact h.below ((Below.refl w.heap.size w).alloc (Nat.le_refl _) _) h.lt
  have hgw : g < w.heap.size := h.lt
  obtain ⟨n0, hn0⟩ : ∃ n, beVal a0.1 = n := ⟨_, rfl⟩
  obtain ⟨v0, hv0⟩ : ∃ v, i64L a0.1 = v := ⟨_, rfl⟩
  have hw0 : wrap64 ((n0 : Nat) : Int) = v0 := by rw [← hv0, ← hn0]; rfl
  rw [hn0] at U0
  rw [hv0]
  have HU0 := Lib.hid U0; have HU1 := Lib.hid U1; have HU2 := Lib.hid U2; have HU3 := Lib.hid U3
  have HR := Lib.hid hR; have G0 := Lib.hid hb0; have I0 := Lib.hid hI
  clear U0 U1 U2 U3 h0 h1 h2 h3 hrd hR hb0 hI h hn0 hv0
  go_enter Try.func55, Try.ntmps55
  go_wp2_with fail
  (try rw [hW])
  refine (HU0.out _ I0.out).mono ?_
  rintro y w1 ⟨rfl, hi, hb⟩
  have R1 := Lib.hid (HR.out.keptBy hb (by omega)); have G1 := Lib.hid (grown_two G0.out hb); have I1 := Lib.hid hi
  have hc1 := R1.out.cell; have hf1 := R1.out.free; have hl1 := R1.out.lt
  clear hb hi hW
  go_wp2_with fail
  obtain ⟨V1, hV1⟩ : ∃ V, w1.alloc (.cells #[.int .i64 v0, .string ⟨#[]⟩, .string ⟨#[]⟩, .float .f64 0] 33) = V := ⟨_, rfl⟩
  have hE1 : BlkIs V1 w1.heap.size 33 #[.int .i64 v0, .string ⟨#[]⟩, .string ⟨#[]⟩, .float .f64 0] := by rw [← hV1]; exact BlkIs.new _ _ _
  have hbV : Below w1.heap.size w1 V1 := by rw [← hV1]; exact (Below.refl _ _).alloc (Nat.le_refl _) _
  have E2 := Lib.hid hE1
  have R2 := Lib.hid (R1.out.below hbV R1.out.lt)
  have G2 := Lib.hid (grown_two G1.out (grown_below hbV))
  have I2 := Lib.hid (I1.out.below hbV I1.out.lt)
  have hgw1 : g < w1.heap.size := I1.out.lt
  have hww1 : w.heap.size < w1.heap.size := R1.out.lt
  rw [hV1]
  clear hV1 hE1 hbV hc1 hf1 hl1
  refine (HU1.out _ I2.out).mono ?_
  rintro y w2 ⟨rfl, hi, hb⟩
  have hE := E2.out.keptBy hb (by omega); have hR := R2.out.keptBy hb (by omega); have hG := grown_two G2.out hb
  have hce := hE.cell; have hfe := hE.free; have hle := hE.lt
  go_wp2_with fail
  have E3 := Lib.hid (hE.put 1 (.string ⟨a1.1.toArray⟩)); have R3 := Lib.hid (hR.keptBy (grown_set w2 w1.heap.size 1 (.string ⟨a1.1.toArray⟩)) (by omega)); have G3 := Lib.hid (grown_new hG (by omega) 1 (.string ⟨a1.1.toArray⟩) : w.grownBy (w2.setCell ⟨w1.heap.size, 1, none⟩ (.string ⟨a1.1.toArray⟩)) (some g)); have I3 := Lib.hid (hi.keptBy (grown_set w2 w1.heap.size 1 (.string ⟨a1.1.toArray⟩)) (by omega))
  generalize hV2 : w2.setCell ⟨w1.heap.size, 1, none⟩ (.string ⟨a1.1.toArray⟩) = V2 at E3 R3 G3 I3 ⊢
  clear hV2 hce hfe hle hE hR hG hi hb
  refine (HU2.out _ I3.out).mono ?_
  rintro y w3 ⟨rfl, hi, hb⟩
  have hE := E3.out.keptBy hb (by omega); have hR := R3.out.keptBy hb (by omega); have hG := grown_two G3.out hb
  have hce := hE.cell; have hfe := hE.free; have hle := hE.lt
  go_wp2_with fail
  have E4 := Lib.hid (hE.put 2 (.string ⟨a2.1.toArray⟩)); have R4 := Lib.hid (hR.keptBy (grown_set w3 w1.heap.size 2 (.string ⟨a2.1.toArray⟩)) (by omega)); have G4 := Lib.hid (grown_new hG (by omega) 2 (.string ⟨a2.1.toArray⟩) : w.grownBy (w3.setCell ⟨w1.heap.size, 2, none⟩ (.string ⟨a2.1.toArray⟩)) (some g)); have I4 := Lib.hid (hi.keptBy (grown_set w3 w1.heap.size 2 (.string ⟨a2.1.toArray⟩)) (by omega))
  generalize hV3 : w3.setCell ⟨w1.heap.size, 2, none⟩ (.string ⟨a2.1.toArray⟩) = V3 at E4 R4 G4 I4 ⊢
  clear hV3 hce hfe hle hE hR hG hi hb
  refine (HU3.out _ I4.out).mono ?_
  rintro y w4 ⟨rfl, hi, hb⟩
  have hE := E4.out.keptBy hb (by omega); have hR := R4.out.keptBy hb (by omega); have hG := grown_two G4.out hb
  have hce := hE.cell; have hfe := hE.free; have hle := hE.lt
  have E5 := Lib.hid (hE.put 3 (.float .f64 (canB (beVal a3.1)))); have R5 := Lib.hid (hR.keptBy (grown_set w4 w1.heap.size 3 (.float .f64 (canB (beVal a3.1)))) (by omega)); have G5 := Lib.hid (grown_new hG (by omega) 3 (.float .f64 (canB (beVal a3.1))) : w.grownBy (w4.setCell ⟨w1.heap.size, 3, none⟩ (.float .f64 (canB (beVal a3.1)))) (some g)); have I5 := Lib.hid (hi.keptBy (grown_set w4 w1.heap.size 3 (.float .f64 (canB (beVal a3.1)))) (by omega))
  obtain ⟨V4, hV4⟩ : ∃ V, w4.setCell ⟨w1.heap.size, 3, none⟩ (.float .f64 (canB (beVal a3.1))) = V := ⟨_, rfl⟩
  rw [hV4] at E5 R5 G5 I5
  have hcE := E5.out.cell; have hcR := R5.out.cell; have hfR := R5.out.free; have hRl := R5.out.lt
  have hEl := E5.out.lt
  clear hE hR hG hi hb
  go_wp2_with fail
  change bodyPost _ _ _ _ _ (setFour V4 w.heap.size (.int .i64 v0) (.string ⟨a1.1.toArray⟩) (.string ⟨a2.1.toArray⟩) (.float .f64 (canB (beVal a3.1))))
  have hB5 := blk_four R5.out (.int .i64 v0) (.string ⟨a1.1.toArray⟩) (.string ⟨a2.1.toArray⟩) (.float .f64 (canB (beVal a3.1)))
  have hG5 := grown_four G5.out (Nat.le_refl _) (.int .i64 v0) (.string ⟨a1.1.toArray⟩) (.string ⟨a2.1.toArray⟩) (.float .f64 (canB (beVal a3.1)))
  have hI5 : RinQ (setFour V4 w.heap.size (.int .i64 v0) (.string ⟨a1.1.toArray⟩) (.string ⟨a2.1.toArray⟩) (.float .f64 (canB (beVal a3.1)))) base g a3.2.1 a3.2.2 :=
    (((I5.out.keptBy (grown_set V4 w.heap.size 0 _) (by omega)).keptBy (grown_set _ w.heap.size 1 _) (by omega)).keptBy (grown_set _ w.heap.size 2 _) (by omega)).keptBy (grown_set _ w.heap.size 3 _) (by omega)
  generalize setFour V4 w.heap.size (.int .i64 v0) (.string ⟨a1.1.toArray⟩) (.string ⟨a2.1.toArray⟩) (.float .f64 (canB (beVal a3.1))) = W5 at hB5 hG5 hI5 ⊢
  have hcell := hB5.cell; have hfree := hB5.free; have hlt5 := hB5.lt
  clear hcR hfR hRl hcE hEl hce hfe hle hV4
  refine bodyPost_ret (v := .agg #[.int .i64 v0, .string ⟨a1.1.toArray⟩, .string ⟨a2.1.toArray⟩, .float .f64 (canB (beVal a3.1))]) ?_ rfl ⟨rfl, hI5, hG5⟩
  simp [results, Try.results55, go_sem, hcell, hfree, hlt5]

theorem refDone7_any (g base : Nat) (bs : List UInt8) (w : World) (h : RoutIs w base g bs 0) (hl : bs.length ≤ 1000000000) :
    Calls Try.prog 49 #[.pointer (some ⟨g, 0, none⟩)] w fun e w' => e = .returned (.tuple #[.string ⟨bs.toArray⟩, .int .i64 0]) ∧ w = w' := by
  obtain ⟨v, hB, hbg, hown⟩ := id h
  go_enter Try.func49, Try.ntmps49
  have hc0 := hB.cell 0
  have hc1 := hB.cell 1
  simp at hc0 hc1
  have hstr := run_str_own (P := Try.prog) w 63 9 5 Try.underlying63 Try.underlying5 Try.underlying9 base v bs hown
  clear hown hB
  go_wp2
  go_ret2
  exact ⟨rfl, rfl⟩

theorem refSame7f_any (a b : Nat) (w : World) : Calls Try.prog 60 #[.float .f64 a, .float .f64 b] w fun e w' => e = .returned (.bool (decide (canB a = canB b))) ∧ w = w' := by
  have ha := refBits_any a w
  have hb := refBits_any b w
  have e : ((canB a : Int) == (canB b : Int)) = decide (canB a = canB b) := by
    rw [Bool.eq_iff_iff, beq_iff_eq, decide_eq_true_eq]; omega
  have Ha := Lib.hid ha; have Hb := Lib.hid hb
  clear ha hb
  generalize canB a = x at *
  generalize canB b = y at *
  go_enter Try.func60, Try.ntmps60
  go_wp2_with fail
  refine Ha.out.mono ?_
  rintro e w1 ⟨rfl, rfl⟩
  go_wp2_with fail
  refine Hb.out.mono ?_
  rintro e w1 ⟨rfl, rfl⟩
  go_wp2_with fail
  go_ret
  exact ⟨by simp [e], rfl⟩
theorem refSameEvent_any (a b : Ev) (w : World) : Calls Try.prog 22 #[evA a, evA b] w fun e w' => e = .returned (.bool (sameE a b)) ∧ Below w.heap.size w w' := by
  obtain ⟨i, t, d, v⟩ := a
  obtain ⟨i2, t2, d2, v2⟩ := b
  unfold evA sameE
  dsimp only
  have hs := refSame7f_any v v2
  have hb1 : Below w.heap.size w ((w.alloc (.cells #[.int .i64 i, .string t, .string d, .float .f64 v] 33)).alloc (.cells #[.int .i64 i2, .string t2, .string d2, .float .f64 v2] 33)) := ((Below.refl _ _).alloc (Nat.le_refl _) _).alloc (by simp) _
  have Hb := Lib.hid hb1; have Hs := Lib.hid hs
  have q2 := str_beq t t2
  have q3 := str_beq d d2
  clear hb1 hs
  by_cases h1 : i = i2
  · have e1 : (i == i2) = true := by simpa using h1
    rw [decide_eq_true h1]
    by_cases h2 : t = t2
    · rw [decide_eq_true h2] at q2
      rw [decide_eq_true h2]
      by_cases h3 : d = d2
      · rw [decide_eq_true h3] at q3
        rw [decide_eq_true h3]
        generalize decide (canB v = canB v2) = x at Hs ⊢
        clear h1 h2 h3
        go_enter Try.func22, Try.ntmps22
        go_wp2_with fail
        refine (Hs.out _).mono ?_
        rintro e w1 ⟨rfl, rfl⟩
        go_wp2_with fail
        go_ret
        exact ⟨rfl, Hb.out⟩
      · rw [decide_eq_false h3] at q3
        rw [decide_eq_false h3]
        clear h1 h2 h3
        go_enter Try.func22, Try.ntmps22
        go_wp2_with fail
        go_ret
        exact ⟨rfl, Hb.out⟩
    · rw [decide_eq_false h2] at q2
      rw [decide_eq_false h2]
      clear h1 h2 q3
      go_enter Try.func22, Try.ntmps22
      go_wp2_with fail
      go_ret
      exact ⟨rfl, Hb.out⟩
  · have e1 : (i == i2) = false := by simpa using h1
    rw [decide_eq_false h1]
    clear h1 q2 q3
    go_enter Try.func22, Try.ntmps22
    go_wp2_with fail
    go_ret
    exact ⟨rfl, Hb.out⟩
end Go.Proofs.Ytfpalamoaflilaa
