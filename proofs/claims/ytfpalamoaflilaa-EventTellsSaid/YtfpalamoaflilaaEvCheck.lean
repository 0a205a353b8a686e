/- chapter 7: event.Check. -/
import Derived.Test.YtfpalamoaflilaaEvSpare
namespace Go.Proofs.Ytfpalamoaflilaa
open Go.RowKit
set_option maxHeartbeats 2000000
set_option maxRecDepth 100000
set_option linter.unusedVariables false

theorem check_1 (t : Int) (s : ByteArray) (x : Int) (A : Option Addr) (n cap B : Nat) (es : List Ev) (m0 m1 m2 : Int) (w : World) (hr : SlR w B 4 A n (evVs es)) (hB : B ≤ w.heap.size) (hn : n ≤ 1000000000) (hf : ∀ e ∈ es, e.fits) (hs : s.size ≤ 9223372036854775807) :
    Calls Try.prog 12 #[.agg #[.int .i64 1, .int .i64 t, .string s, .int .i64 x, .slice A n cap, .int .i64 m0, .int .i64 m1, .int .i64 m2]] w fun e w' => e = .returned (.int .i64 (checkC ⟨1, t, s, x, es, m0, m1, m2⟩)) ∧ Below w.heap.size w w' := by
  have hl : es.length = n := by have := hr.len; rw [evVs_length] at this; omega
  obtain ⟨W, hW⟩ : ∃ W, w.alloc (.cells #[.int .i64 1, .int .i64 t, .string s, .int .i64 x, .slice A n cap, .int .i64 m0, .int .i64 m1, .int .i64 m2] 26) = W := ⟨_, rfl⟩
  have hM : BlkIs W w.heap.size 26 #[.int .i64 1, .int .i64 t, .string s, .int .i64 x, .slice A n cap, .int .i64 m0, .int .i64 m1, .int .i64 m2] := by rw [← hW]; exact BlkIs.new _ _ _
  have hb0 : Below w.heap.size w W := by rw [← hW]; exact (Below.refl _ _).alloc (Nat.le_refl _) _
  have hr0 := hr.below (hb0.mono hB)
  have hcW := hM.cell; have hlW := hM.lt
  have HM := Lib.hid hM; have Hr := Lib.hid hr0; have HB := Lib.hid hb0
  clear hM hr hr0 hb0
  have k1 := fun w => within_any t w
  have k2 := fun w => stream_any s w hs
  have k3 := fun w => expects_any x w
  have k4 := fun w => meta_any m0 m1 m2 w
  have k5 := fun w => spare_any 1 t s x A n cap es m0 m1 m2 w hl
  have k6 := events_any A n cap B es W Hr.out (Nat.le_trans hB HB.out.size) hn hf
  have cv : ∀ V, checkC ⟨1, t, s, x, es, m0, m1, m2⟩ = V → V = checkC ⟨1, t, s, x, es, m0, m1, m2⟩ := fun V h => h.symm
  cases q1 : withinB t with
  | false =>
    rw [q1] at k1
    have hv : checkC ⟨1, t, s, x, es, m0, m1, m2⟩ = 1 := by simp [checkC, q1]
    rw [hv]
    have K1 := Lib.hid k1
    clear hv cv k1 k2 k3 k4 k5 k6
    clear q1
    go_enter Try.func12, Try.ntmps12
    go_wp2_with fail
    (try rw [hW])
    go_wp2_with (first
      | (go_at_call 34; refine (K1.out _).mono ?_; rintro e w1 ⟨rfl, rfl⟩)
      | (go_at_call 35; refine (K2.out _).mono ?_; rintro e w1 ⟨rfl, rfl⟩)
      | (go_at_call 37; refine (K3.out _).mono ?_; rintro e w1 ⟨rfl, rfl⟩)
      | (go_at_call 36; refine K6.out.mono ?_; rintro e w1 ⟨rfl, hb1⟩; have hc1 := (HM.out.below hb1 HM.out.lt).cell; have HB := Lib.hid (HB.out.trans (hb1.mono HB.out.size)); clear hb1)
      | (go_at_call 27; refine (K4.out _).mono ?_; rintro e w2 ⟨rfl, hb2⟩; have hc2 := (HM.out.below hb2 HM.out.lt).cell; have HB := Lib.hid (HB.out.trans (hb2.mono HB.out.size)); clear hb2)
      | (go_at_call 38; refine (K5.out _).mono ?_; rintro e w3 ⟨rfl, hb3⟩; have HB := Lib.hid (HB.out.trans (hb3.mono HB.out.size)); clear hb3))
    go_ret
    exact ⟨rfl, HB.out⟩
  | true =>
    rw [q1] at k1
    cases q2 : nameB s with
    | false =>
      rw [q2] at k2
      have hv : checkC ⟨1, t, s, x, es, m0, m1, m2⟩ = 1 := by simp [checkC, q1, q2]
      rw [hv]
      have K1 := Lib.hid k1
      have K2 := Lib.hid k2
      clear hv cv k1 k2 k3 k4 k5 k6
      clear q1 q2
      go_enter Try.func12, Try.ntmps12
      go_wp2_with fail
      (try rw [hW])
      go_wp2_with (first
        | (go_at_call 34; refine (K1.out _).mono ?_; rintro e w1 ⟨rfl, rfl⟩)
        | (go_at_call 35; refine (K2.out _).mono ?_; rintro e w1 ⟨rfl, rfl⟩)
        | (go_at_call 37; refine (K3.out _).mono ?_; rintro e w1 ⟨rfl, rfl⟩)
        | (go_at_call 36; refine K6.out.mono ?_; rintro e w1 ⟨rfl, hb1⟩; have hc1 := (HM.out.below hb1 HM.out.lt).cell; have HB := Lib.hid (HB.out.trans (hb1.mono HB.out.size)); clear hb1)
        | (go_at_call 27; refine (K4.out _).mono ?_; rintro e w2 ⟨rfl, hb2⟩; have hc2 := (HM.out.below hb2 HM.out.lt).cell; have HB := Lib.hid (HB.out.trans (hb2.mono HB.out.size)); clear hb2)
        | (go_at_call 38; refine (K5.out _).mono ?_; rintro e w3 ⟨rfl, hb3⟩; have HB := Lib.hid (HB.out.trans (hb3.mono HB.out.size)); clear hb3))
      go_ret
      exact ⟨rfl, HB.out⟩
    | true =>
      rw [q2] at k2
      by_cases q6 : evsErr es = 0
      · rw [q6] at k6
        cases q3 : expectsB x with
        | false =>
          rw [q3] at k3
          have hv : checkC ⟨1, t, s, x, es, m0, m1, m2⟩ = 1 := by simp [checkC, q1, q2, q6, q3]
          rw [hv]
          have K1 := Lib.hid k1
          have K2 := Lib.hid k2
          have K6 := Lib.hid k6
          have K3 := Lib.hid k3
          clear hv cv k1 k2 k3 k4 k5 k6
          clear q1 q2 q6 q3
          go_enter Try.func12, Try.ntmps12
          go_wp2_with fail
          (try rw [hW])
          go_wp2_with (first
            | (go_at_call 34; refine (K1.out _).mono ?_; rintro e w1 ⟨rfl, rfl⟩)
            | (go_at_call 35; refine (K2.out _).mono ?_; rintro e w1 ⟨rfl, rfl⟩)
            | (go_at_call 37; refine (K3.out _).mono ?_; rintro e w1 ⟨rfl, rfl⟩)
            | (go_at_call 36; refine K6.out.mono ?_; rintro e w1 ⟨rfl, hb1⟩; have hc1 := (HM.out.below hb1 HM.out.lt).cell; have HB := Lib.hid (HB.out.trans (hb1.mono HB.out.size)); clear hb1)
            | (go_at_call 27; refine (K4.out _).mono ?_; rintro e w2 ⟨rfl, hb2⟩; have hc2 := (HM.out.below hb2 HM.out.lt).cell; have HB := Lib.hid (HB.out.trans (hb2.mono HB.out.size)); clear hb2)
            | (go_at_call 38; refine (K5.out _).mono ?_; rintro e w3 ⟨rfl, hb3⟩; have HB := Lib.hid (HB.out.trans (hb3.mono HB.out.size)); clear hb3))
          go_ret
          exact ⟨rfl, HB.out⟩
        | true =>
          rw [q3] at k3
          cases q5 : spareB ⟨1, t, s, x, es, m0, m1, m2⟩ with
          | false =>
            rw [q5] at k5
            have hv : checkC ⟨1, t, s, x, es, m0, m1, m2⟩ = 0 := by simp [checkC, q1, q2, q6, q3, q5]
            rw [hv]
            have K1 := Lib.hid k1
            have K2 := Lib.hid k2
            have K6 := Lib.hid k6
            have K3 := Lib.hid k3
            have K5 := Lib.hid k5
            clear hv cv k1 k2 k3 k4 k5 k6
            clear q1 q2 q6 q3 q5
            go_enter Try.func12, Try.ntmps12
            go_wp2_with fail
            (try rw [hW])
            go_wp2_with (first
              | (go_at_call 34; refine (K1.out _).mono ?_; rintro e w1 ⟨rfl, rfl⟩)
              | (go_at_call 35; refine (K2.out _).mono ?_; rintro e w1 ⟨rfl, rfl⟩)
              | (go_at_call 37; refine (K3.out _).mono ?_; rintro e w1 ⟨rfl, rfl⟩)
              | (go_at_call 36; refine K6.out.mono ?_; rintro e w1 ⟨rfl, hb1⟩; have hc1 := (HM.out.below hb1 HM.out.lt).cell; have HB := Lib.hid (HB.out.trans (hb1.mono HB.out.size)); clear hb1)
              | (go_at_call 27; refine (K4.out _).mono ?_; rintro e w2 ⟨rfl, hb2⟩; have hc2 := (HM.out.below hb2 HM.out.lt).cell; have HB := Lib.hid (HB.out.trans (hb2.mono HB.out.size)); clear hb2)
              | (go_at_call 38; refine (K5.out _).mono ?_; rintro e w3 ⟨rfl, hb3⟩; have HB := Lib.hid (HB.out.trans (hb3.mono HB.out.size)); clear hb3))
            go_ret
            exact ⟨rfl, HB.out⟩
          | true =>
            rw [q5] at k5
            have hv : checkC ⟨1, t, s, x, es, m0, m1, m2⟩ = 1 := by simp [checkC, q1, q2, q6, q3, q5]
            rw [hv]
            have K1 := Lib.hid k1
            have K2 := Lib.hid k2
            have K6 := Lib.hid k6
            have K3 := Lib.hid k3
            have K5 := Lib.hid k5
            clear hv cv k1 k2 k3 k4 k5 k6
            clear q1 q2 q6 q3 q5
            go_enter Try.func12, Try.ntmps12
            go_wp2_with fail
            (try rw [hW])
            go_wp2_with (first
              | (go_at_call 34; refine (K1.out _).mono ?_; rintro e w1 ⟨rfl, rfl⟩)
              | (go_at_call 35; refine (K2.out _).mono ?_; rintro e w1 ⟨rfl, rfl⟩)
              | (go_at_call 37; refine (K3.out _).mono ?_; rintro e w1 ⟨rfl, rfl⟩)
              | (go_at_call 36; refine K6.out.mono ?_; rintro e w1 ⟨rfl, hb1⟩; have hc1 := (HM.out.below hb1 HM.out.lt).cell; have HB := Lib.hid (HB.out.trans (hb1.mono HB.out.size)); clear hb1)
              | (go_at_call 27; refine (K4.out _).mono ?_; rintro e w2 ⟨rfl, hb2⟩; have hc2 := (HM.out.below hb2 HM.out.lt).cell; have HB := Lib.hid (HB.out.trans (hb2.mono HB.out.size)); clear hb2)
              | (go_at_call 38; refine (K5.out _).mono ?_; rintro e w3 ⟨rfl, hb3⟩; have HB := Lib.hid (HB.out.trans (hb3.mono HB.out.size)); clear hb3))
            go_ret
            exact ⟨rfl, HB.out⟩
      · obtain ⟨E, hE⟩ : ∃ E, evsErr es = E := ⟨_, rfl⟩
        rw [hE] at k6 q6
        have q6' : (E != 0) = true := by rw [bne_iff_ne]; exact q6
        have qe := hE
        have hv : checkC ⟨1, t, s, x, es, m0, m1, m2⟩ = E := by simp [checkC, q1, q2, q6, qe]
        rw [hv]
        have K1 := Lib.hid k1
        have K2 := Lib.hid k2
        have K6 := Lib.hid k6
        clear hv cv k1 k2 k3 k4 k5 k6
        clear q1 q2 q6 qe
        go_enter Try.func12, Try.ntmps12
        go_wp2_with fail
        (try rw [hW])
        go_wp2_with (first
          | (go_at_call 34; refine (K1.out _).mono ?_; rintro e w1 ⟨rfl, rfl⟩)
          | (go_at_call 35; refine (K2.out _).mono ?_; rintro e w1 ⟨rfl, rfl⟩)
          | (go_at_call 37; refine (K3.out _).mono ?_; rintro e w1 ⟨rfl, rfl⟩)
          | (go_at_call 36; refine K6.out.mono ?_; rintro e w1 ⟨rfl, hb1⟩; have hc1 := (HM.out.below hb1 HM.out.lt).cell; have HB := Lib.hid (HB.out.trans (hb1.mono HB.out.size)); clear hb1)
          | (go_at_call 27; refine (K4.out _).mono ?_; rintro e w2 ⟨rfl, hb2⟩; have hc2 := (HM.out.below hb2 HM.out.lt).cell; have HB := Lib.hid (HB.out.trans (hb2.mono HB.out.size)); clear hb2)
          | (go_at_call 38; refine (K5.out _).mono ?_; rintro e w3 ⟨rfl, hb3⟩; have HB := Lib.hid (HB.out.trans (hb3.mono HB.out.size)); clear hb3))
        go_ret
        exact ⟨rfl, HB.out⟩
theorem check_2 (t : Int) (s : ByteArray) (x : Int) (A : Option Addr) (n cap B : Nat) (es : List Ev) (m0 m1 m2 : Int) (w : World) (hr : SlR w B 4 A n (evVs es)) (hB : B ≤ w.heap.size) (hn : n ≤ 1000000000) (hf : ∀ e ∈ es, e.fits) (hs : s.size ≤ 9223372036854775807) :
    Calls Try.prog 12 #[.agg #[.int .i64 2, .int .i64 t, .string s, .int .i64 x, .slice A n cap, .int .i64 m0, .int .i64 m1, .int .i64 m2]] w fun e w' => e = .returned (.int .i64 (checkC ⟨2, t, s, x, es, m0, m1, m2⟩)) ∧ Below w.heap.size w w' := by
  have hl : es.length = n := by have := hr.len; rw [evVs_length] at this; omega
  obtain ⟨W, hW⟩ : ∃ W, w.alloc (.cells #[.int .i64 2, .int .i64 t, .string s, .int .i64 x, .slice A n cap, .int .i64 m0, .int .i64 m1, .int .i64 m2] 26) = W := ⟨_, rfl⟩
  have hM : BlkIs W w.heap.size 26 #[.int .i64 2, .int .i64 t, .string s, .int .i64 x, .slice A n cap, .int .i64 m0, .int .i64 m1, .int .i64 m2] := by rw [← hW]; exact BlkIs.new _ _ _
  have hb0 : Below w.heap.size w W := by rw [← hW]; exact (Below.refl _ _).alloc (Nat.le_refl _) _
  have hr0 := hr.below (hb0.mono hB)
  have hcW := hM.cell; have hlW := hM.lt
  have HM := Lib.hid hM; have Hr := Lib.hid hr0; have HB := Lib.hid hb0
  clear hM hr hr0 hb0
  have k1 := fun w => within_any t w
  have k2 := fun w => stream_any s w hs
  have k3 := fun w => expects_any x w
  have k4 := fun w => meta_any m0 m1 m2 w
  have k5 := fun w => spare_any 2 t s x A n cap es m0 m1 m2 w hl
  have k6 := events_any A n cap B es W Hr.out (Nat.le_trans hB HB.out.size) hn hf
  have cv : ∀ V, checkC ⟨2, t, s, x, es, m0, m1, m2⟩ = V → V = checkC ⟨2, t, s, x, es, m0, m1, m2⟩ := fun V h => h.symm
  cases q1 : withinB t with
  | false =>
    rw [q1] at k1
    have hv : checkC ⟨2, t, s, x, es, m0, m1, m2⟩ = 1 := by simp [checkC, q1]
    rw [hv]
    have K1 := Lib.hid k1
    clear hv cv k1 k2 k3 k4 k5 k6
    clear q1
    go_enter Try.func12, Try.ntmps12
    go_wp2_with fail
    (try rw [hW])
    go_wp2_with (first
      | (go_at_call 34; refine (K1.out _).mono ?_; rintro e w1 ⟨rfl, rfl⟩)
      | (go_at_call 35; refine (K2.out _).mono ?_; rintro e w1 ⟨rfl, rfl⟩)
      | (go_at_call 37; refine (K3.out _).mono ?_; rintro e w1 ⟨rfl, rfl⟩)
      | (go_at_call 36; refine K6.out.mono ?_; rintro e w1 ⟨rfl, hb1⟩; have hc1 := (HM.out.below hb1 HM.out.lt).cell; have HB := Lib.hid (HB.out.trans (hb1.mono HB.out.size)); clear hb1)
      | (go_at_call 27; refine (K4.out _).mono ?_; rintro e w2 ⟨rfl, hb2⟩; have hc2 := (HM.out.below hb2 HM.out.lt).cell; have HB := Lib.hid (HB.out.trans (hb2.mono HB.out.size)); clear hb2)
      | (go_at_call 38; refine (K5.out _).mono ?_; rintro e w3 ⟨rfl, hb3⟩; have HB := Lib.hid (HB.out.trans (hb3.mono HB.out.size)); clear hb3))
    go_ret
    exact ⟨rfl, HB.out⟩
  | true =>
    rw [q1] at k1
    cases q2 : nameB s with
    | false =>
      rw [q2] at k2
      have hv : checkC ⟨2, t, s, x, es, m0, m1, m2⟩ = 1 := by simp [checkC, q1, q2]
      rw [hv]
      have K1 := Lib.hid k1
      have K2 := Lib.hid k2
      clear hv cv k1 k2 k3 k4 k5 k6
      clear q1 q2
      go_enter Try.func12, Try.ntmps12
      go_wp2_with fail
      (try rw [hW])
      go_wp2_with (first
        | (go_at_call 34; refine (K1.out _).mono ?_; rintro e w1 ⟨rfl, rfl⟩)
        | (go_at_call 35; refine (K2.out _).mono ?_; rintro e w1 ⟨rfl, rfl⟩)
        | (go_at_call 37; refine (K3.out _).mono ?_; rintro e w1 ⟨rfl, rfl⟩)
        | (go_at_call 36; refine K6.out.mono ?_; rintro e w1 ⟨rfl, hb1⟩; have hc1 := (HM.out.below hb1 HM.out.lt).cell; have HB := Lib.hid (HB.out.trans (hb1.mono HB.out.size)); clear hb1)
        | (go_at_call 27; refine (K4.out _).mono ?_; rintro e w2 ⟨rfl, hb2⟩; have hc2 := (HM.out.below hb2 HM.out.lt).cell; have HB := Lib.hid (HB.out.trans (hb2.mono HB.out.size)); clear hb2)
        | (go_at_call 38; refine (K5.out _).mono ?_; rintro e w3 ⟨rfl, hb3⟩; have HB := Lib.hid (HB.out.trans (hb3.mono HB.out.size)); clear hb3))
      go_ret
      exact ⟨rfl, HB.out⟩
    | true =>
      rw [q2] at k2
      cases q4 : metaB m0 m1 m2 with
      | false =>
        rw [q4] at k4
        have hv : checkC ⟨2, t, s, x, es, m0, m1, m2⟩ = 1 := by simp [checkC, q1, q2, q4]
        rw [hv]
        have K1 := Lib.hid k1
        have K2 := Lib.hid k2
        have K4 := Lib.hid k4
        clear hv cv k1 k2 k3 k4 k5 k6
        clear q1 q2 q4
        go_enter Try.func12, Try.ntmps12
        go_wp2_with fail
        (try rw [hW])
        go_wp2_with (first
          | (go_at_call 34; refine (K1.out _).mono ?_; rintro e w1 ⟨rfl, rfl⟩)
          | (go_at_call 35; refine (K2.out _).mono ?_; rintro e w1 ⟨rfl, rfl⟩)
          | (go_at_call 37; refine (K3.out _).mono ?_; rintro e w1 ⟨rfl, rfl⟩)
          | (go_at_call 36; refine K6.out.mono ?_; rintro e w1 ⟨rfl, hb1⟩; have hc1 := (HM.out.below hb1 HM.out.lt).cell; have HB := Lib.hid (HB.out.trans (hb1.mono HB.out.size)); clear hb1)
          | (go_at_call 27; refine (K4.out _).mono ?_; rintro e w2 ⟨rfl, hb2⟩; have hc2 := (HM.out.below hb2 HM.out.lt).cell; have HB := Lib.hid (HB.out.trans (hb2.mono HB.out.size)); clear hb2)
          | (go_at_call 38; refine (K5.out _).mono ?_; rintro e w3 ⟨rfl, hb3⟩; have HB := Lib.hid (HB.out.trans (hb3.mono HB.out.size)); clear hb3))
        go_ret
        exact ⟨rfl, HB.out⟩
      | true =>
        rw [q4] at k4
        cases q5 : spareB ⟨2, t, s, x, es, m0, m1, m2⟩ with
        | false =>
          rw [q5] at k5
          have hv : checkC ⟨2, t, s, x, es, m0, m1, m2⟩ = 0 := by simp [checkC, q1, q2, q4, q5]
          rw [hv]
          have K1 := Lib.hid k1
          have K2 := Lib.hid k2
          have K4 := Lib.hid k4
          have K5 := Lib.hid k5
          clear hv cv k1 k2 k3 k4 k5 k6
          clear q1 q2 q4 q5
          go_enter Try.func12, Try.ntmps12
          go_wp2_with fail
          (try rw [hW])
          go_wp2_with (first
            | (go_at_call 34; refine (K1.out _).mono ?_; rintro e w1 ⟨rfl, rfl⟩)
            | (go_at_call 35; refine (K2.out _).mono ?_; rintro e w1 ⟨rfl, rfl⟩)
            | (go_at_call 37; refine (K3.out _).mono ?_; rintro e w1 ⟨rfl, rfl⟩)
            | (go_at_call 36; refine K6.out.mono ?_; rintro e w1 ⟨rfl, hb1⟩; have hc1 := (HM.out.below hb1 HM.out.lt).cell; have HB := Lib.hid (HB.out.trans (hb1.mono HB.out.size)); clear hb1)
            | (go_at_call 27; refine (K4.out _).mono ?_; rintro e w2 ⟨rfl, hb2⟩; have hc2 := (HM.out.below hb2 HM.out.lt).cell; have HB := Lib.hid (HB.out.trans (hb2.mono HB.out.size)); clear hb2)
            | (go_at_call 38; refine (K5.out _).mono ?_; rintro e w3 ⟨rfl, hb3⟩; have HB := Lib.hid (HB.out.trans (hb3.mono HB.out.size)); clear hb3))
          go_ret
          exact ⟨rfl, HB.out⟩
        | true =>
          rw [q5] at k5
          have hv : checkC ⟨2, t, s, x, es, m0, m1, m2⟩ = 1 := by simp [checkC, q1, q2, q4, q5]
          rw [hv]
          have K1 := Lib.hid k1
          have K2 := Lib.hid k2
          have K4 := Lib.hid k4
          have K5 := Lib.hid k5
          clear hv cv k1 k2 k3 k4 k5 k6
          clear q1 q2 q4 q5
          go_enter Try.func12, Try.ntmps12
          go_wp2_with fail
          (try rw [hW])
          go_wp2_with (first
            | (go_at_call 34; refine (K1.out _).mono ?_; rintro e w1 ⟨rfl, rfl⟩)
            | (go_at_call 35; refine (K2.out _).mono ?_; rintro e w1 ⟨rfl, rfl⟩)
            | (go_at_call 37; refine (K3.out _).mono ?_; rintro e w1 ⟨rfl, rfl⟩)
            | (go_at_call 36; refine K6.out.mono ?_; rintro e w1 ⟨rfl, hb1⟩; have hc1 := (HM.out.below hb1 HM.out.lt).cell; have HB := Lib.hid (HB.out.trans (hb1.mono HB.out.size)); clear hb1)
            | (go_at_call 27; refine (K4.out _).mono ?_; rintro e w2 ⟨rfl, hb2⟩; have hc2 := (HM.out.below hb2 HM.out.lt).cell; have HB := Lib.hid (HB.out.trans (hb2.mono HB.out.size)); clear hb2)
            | (go_at_call 38; refine (K5.out _).mono ?_; rintro e w3 ⟨rfl, hb3⟩; have HB := Lib.hid (HB.out.trans (hb3.mono HB.out.size)); clear hb3))
          go_ret
          exact ⟨rfl, HB.out⟩
theorem check_3 (t : Int) (s : ByteArray) (x : Int) (A : Option Addr) (n cap B : Nat) (es : List Ev) (m0 m1 m2 : Int) (w : World) (hr : SlR w B 4 A n (evVs es)) (hB : B ≤ w.heap.size) (hn : n ≤ 1000000000) (hf : ∀ e ∈ es, e.fits) (hs : s.size ≤ 9223372036854775807) :
    Calls Try.prog 12 #[.agg #[.int .i64 3, .int .i64 t, .string s, .int .i64 x, .slice A n cap, .int .i64 m0, .int .i64 m1, .int .i64 m2]] w fun e w' => e = .returned (.int .i64 (checkC ⟨3, t, s, x, es, m0, m1, m2⟩)) ∧ Below w.heap.size w w' := by
  have hl : es.length = n := by have := hr.len; rw [evVs_length] at this; omega
  obtain ⟨W, hW⟩ : ∃ W, w.alloc (.cells #[.int .i64 3, .int .i64 t, .string s, .int .i64 x, .slice A n cap, .int .i64 m0, .int .i64 m1, .int .i64 m2] 26) = W := ⟨_, rfl⟩
  have hM : BlkIs W w.heap.size 26 #[.int .i64 3, .int .i64 t, .string s, .int .i64 x, .slice A n cap, .int .i64 m0, .int .i64 m1, .int .i64 m2] := by rw [← hW]; exact BlkIs.new _ _ _
  have hb0 : Below w.heap.size w W := by rw [← hW]; exact (Below.refl _ _).alloc (Nat.le_refl _) _
  have hr0 := hr.below (hb0.mono hB)
  have hcW := hM.cell; have hlW := hM.lt
  have HM := Lib.hid hM; have Hr := Lib.hid hr0; have HB := Lib.hid hb0
  clear hM hr hr0 hb0
  have k1 := fun w => within_any t w
  have k2 := fun w => stream_any s w hs
  have k3 := fun w => expects_any x w
  have k4 := fun w => meta_any m0 m1 m2 w
  have k5 := fun w => spare_any 3 t s x A n cap es m0 m1 m2 w hl
  have k6 := events_any A n cap B es W Hr.out (Nat.le_trans hB HB.out.size) hn hf
  have cv : ∀ V, checkC ⟨3, t, s, x, es, m0, m1, m2⟩ = V → V = checkC ⟨3, t, s, x, es, m0, m1, m2⟩ := fun V h => h.symm
  cases q1 : withinB t with
  | false =>
    rw [q1] at k1
    have hv : checkC ⟨3, t, s, x, es, m0, m1, m2⟩ = 1 := by simp [checkC, q1]
    rw [hv]
    have K1 := Lib.hid k1
    clear hv cv k1 k2 k3 k4 k5 k6
    clear q1
    go_enter Try.func12, Try.ntmps12
    go_wp2_with fail
    (try rw [hW])
    go_wp2_with (first
      | (go_at_call 34; refine (K1.out _).mono ?_; rintro e w1 ⟨rfl, rfl⟩)
      | (go_at_call 35; refine (K2.out _).mono ?_; rintro e w1 ⟨rfl, rfl⟩)
      | (go_at_call 37; refine (K3.out _).mono ?_; rintro e w1 ⟨rfl, rfl⟩)
      | (go_at_call 36; refine K6.out.mono ?_; rintro e w1 ⟨rfl, hb1⟩; have hc1 := (HM.out.below hb1 HM.out.lt).cell; have HB := Lib.hid (HB.out.trans (hb1.mono HB.out.size)); clear hb1)
      | (go_at_call 27; refine (K4.out _).mono ?_; rintro e w2 ⟨rfl, hb2⟩; have hc2 := (HM.out.below hb2 HM.out.lt).cell; have HB := Lib.hid (HB.out.trans (hb2.mono HB.out.size)); clear hb2)
      | (go_at_call 38; refine (K5.out _).mono ?_; rintro e w3 ⟨rfl, hb3⟩; have HB := Lib.hid (HB.out.trans (hb3.mono HB.out.size)); clear hb3))
    go_ret
    exact ⟨rfl, HB.out⟩
  | true =>
    rw [q1] at k1
    cases q2 : nameB s with
    | false =>
      rw [q2] at k2
      have hv : checkC ⟨3, t, s, x, es, m0, m1, m2⟩ = 1 := by simp [checkC, q1, q2]
      rw [hv]
      have K1 := Lib.hid k1
      have K2 := Lib.hid k2
      clear hv cv k1 k2 k3 k4 k5 k6
      clear q1 q2
      go_enter Try.func12, Try.ntmps12
      go_wp2_with fail
      (try rw [hW])
      go_wp2_with (first
        | (go_at_call 34; refine (K1.out _).mono ?_; rintro e w1 ⟨rfl, rfl⟩)
        | (go_at_call 35; refine (K2.out _).mono ?_; rintro e w1 ⟨rfl, rfl⟩)
        | (go_at_call 37; refine (K3.out _).mono ?_; rintro e w1 ⟨rfl, rfl⟩)
        | (go_at_call 36; refine K6.out.mono ?_; rintro e w1 ⟨rfl, hb1⟩; have hc1 := (HM.out.below hb1 HM.out.lt).cell; have HB := Lib.hid (HB.out.trans (hb1.mono HB.out.size)); clear hb1)
        | (go_at_call 27; refine (K4.out _).mono ?_; rintro e w2 ⟨rfl, hb2⟩; have hc2 := (HM.out.below hb2 HM.out.lt).cell; have HB := Lib.hid (HB.out.trans (hb2.mono HB.out.size)); clear hb2)
        | (go_at_call 38; refine (K5.out _).mono ?_; rintro e w3 ⟨rfl, hb3⟩; have HB := Lib.hid (HB.out.trans (hb3.mono HB.out.size)); clear hb3))
      go_ret
      exact ⟨rfl, HB.out⟩
    | true =>
      rw [q2] at k2
      cases q3 : expectsB x with
      | false =>
        rw [q3] at k3
        have hv : checkC ⟨3, t, s, x, es, m0, m1, m2⟩ = 1 := by simp [checkC, q1, q2, q3]
        rw [hv]
        have K1 := Lib.hid k1
        have K2 := Lib.hid k2
        have K3 := Lib.hid k3
        clear hv cv k1 k2 k3 k4 k5 k6
        clear q1 q2 q3
        go_enter Try.func12, Try.ntmps12
        go_wp2_with fail
        (try rw [hW])
        go_wp2_with (first
          | (go_at_call 34; refine (K1.out _).mono ?_; rintro e w1 ⟨rfl, rfl⟩)
          | (go_at_call 35; refine (K2.out _).mono ?_; rintro e w1 ⟨rfl, rfl⟩)
          | (go_at_call 37; refine (K3.out _).mono ?_; rintro e w1 ⟨rfl, rfl⟩)
          | (go_at_call 36; refine K6.out.mono ?_; rintro e w1 ⟨rfl, hb1⟩; have hc1 := (HM.out.below hb1 HM.out.lt).cell; have HB := Lib.hid (HB.out.trans (hb1.mono HB.out.size)); clear hb1)
          | (go_at_call 27; refine (K4.out _).mono ?_; rintro e w2 ⟨rfl, hb2⟩; have hc2 := (HM.out.below hb2 HM.out.lt).cell; have HB := Lib.hid (HB.out.trans (hb2.mono HB.out.size)); clear hb2)
          | (go_at_call 38; refine (K5.out _).mono ?_; rintro e w3 ⟨rfl, hb3⟩; have HB := Lib.hid (HB.out.trans (hb3.mono HB.out.size)); clear hb3))
        go_ret
        exact ⟨rfl, HB.out⟩
      | true =>
        rw [q3] at k3
        cases q5 : spareB ⟨3, t, s, x, es, m0, m1, m2⟩ with
        | false =>
          rw [q5] at k5
          have hv : checkC ⟨3, t, s, x, es, m0, m1, m2⟩ = 0 := by simp [checkC, q1, q2, q3, q5]
          rw [hv]
          have K1 := Lib.hid k1
          have K2 := Lib.hid k2
          have K3 := Lib.hid k3
          have K5 := Lib.hid k5
          clear hv cv k1 k2 k3 k4 k5 k6
          clear q1 q2 q3 q5
          go_enter Try.func12, Try.ntmps12
          go_wp2_with fail
          (try rw [hW])
          go_wp2_with (first
            | (go_at_call 34; refine (K1.out _).mono ?_; rintro e w1 ⟨rfl, rfl⟩)
            | (go_at_call 35; refine (K2.out _).mono ?_; rintro e w1 ⟨rfl, rfl⟩)
            | (go_at_call 37; refine (K3.out _).mono ?_; rintro e w1 ⟨rfl, rfl⟩)
            | (go_at_call 36; refine K6.out.mono ?_; rintro e w1 ⟨rfl, hb1⟩; have hc1 := (HM.out.below hb1 HM.out.lt).cell; have HB := Lib.hid (HB.out.trans (hb1.mono HB.out.size)); clear hb1)
            | (go_at_call 27; refine (K4.out _).mono ?_; rintro e w2 ⟨rfl, hb2⟩; have hc2 := (HM.out.below hb2 HM.out.lt).cell; have HB := Lib.hid (HB.out.trans (hb2.mono HB.out.size)); clear hb2)
            | (go_at_call 38; refine (K5.out _).mono ?_; rintro e w3 ⟨rfl, hb3⟩; have HB := Lib.hid (HB.out.trans (hb3.mono HB.out.size)); clear hb3))
          go_ret
          exact ⟨rfl, HB.out⟩
        | true =>
          rw [q5] at k5
          have hv : checkC ⟨3, t, s, x, es, m0, m1, m2⟩ = 1 := by simp [checkC, q1, q2, q3, q5]
          rw [hv]
          have K1 := Lib.hid k1
          have K2 := Lib.hid k2
          have K3 := Lib.hid k3
          have K5 := Lib.hid k5
          clear hv cv k1 k2 k3 k4 k5 k6
          clear q1 q2 q3 q5
          go_enter Try.func12, Try.ntmps12
          go_wp2_with fail
          (try rw [hW])
          go_wp2_with (first
            | (go_at_call 34; refine (K1.out _).mono ?_; rintro e w1 ⟨rfl, rfl⟩)
            | (go_at_call 35; refine (K2.out _).mono ?_; rintro e w1 ⟨rfl, rfl⟩)
            | (go_at_call 37; refine (K3.out _).mono ?_; rintro e w1 ⟨rfl, rfl⟩)
            | (go_at_call 36; refine K6.out.mono ?_; rintro e w1 ⟨rfl, hb1⟩; have hc1 := (HM.out.below hb1 HM.out.lt).cell; have HB := Lib.hid (HB.out.trans (hb1.mono HB.out.size)); clear hb1)
            | (go_at_call 27; refine (K4.out _).mono ?_; rintro e w2 ⟨rfl, hb2⟩; have hc2 := (HM.out.below hb2 HM.out.lt).cell; have HB := Lib.hid (HB.out.trans (hb2.mono HB.out.size)); clear hb2)
            | (go_at_call 38; refine (K5.out _).mono ?_; rintro e w3 ⟨rfl, hb3⟩; have HB := Lib.hid (HB.out.trans (hb3.mono HB.out.size)); clear hb3))
          go_ret
          exact ⟨rfl, HB.out⟩
theorem check_4 (t : Int) (s : ByteArray) (x : Int) (A : Option Addr) (n cap B : Nat) (es : List Ev) (m0 m1 m2 : Int) (w : World) (hr : SlR w B 4 A n (evVs es)) (hB : B ≤ w.heap.size) (hn : n ≤ 1000000000) (hf : ∀ e ∈ es, e.fits) (hs : s.size ≤ 9223372036854775807) :
    Calls Try.prog 12 #[.agg #[.int .i64 4, .int .i64 t, .string s, .int .i64 x, .slice A n cap, .int .i64 m0, .int .i64 m1, .int .i64 m2]] w fun e w' => e = .returned (.int .i64 (checkC ⟨4, t, s, x, es, m0, m1, m2⟩)) ∧ Below w.heap.size w w' := by
  have hl : es.length = n := by have := hr.len; rw [evVs_length] at this; omega
  obtain ⟨W, hW⟩ : ∃ W, w.alloc (.cells #[.int .i64 4, .int .i64 t, .string s, .int .i64 x, .slice A n cap, .int .i64 m0, .int .i64 m1, .int .i64 m2] 26) = W := ⟨_, rfl⟩
  have hM : BlkIs W w.heap.size 26 #[.int .i64 4, .int .i64 t, .string s, .int .i64 x, .slice A n cap, .int .i64 m0, .int .i64 m1, .int .i64 m2] := by rw [← hW]; exact BlkIs.new _ _ _
  have hb0 : Below w.heap.size w W := by rw [← hW]; exact (Below.refl _ _).alloc (Nat.le_refl _) _
  have hr0 := hr.below (hb0.mono hB)
  have hcW := hM.cell; have hlW := hM.lt
  have HM := Lib.hid hM; have Hr := Lib.hid hr0; have HB := Lib.hid hb0
  clear hM hr hr0 hb0
  have k1 := fun w => within_any t w
  have k2 := fun w => stream_any s w hs
  have k3 := fun w => expects_any x w
  have k4 := fun w => meta_any m0 m1 m2 w
  have k5 := fun w => spare_any 4 t s x A n cap es m0 m1 m2 w hl
  have k6 := events_any A n cap B es W Hr.out (Nat.le_trans hB HB.out.size) hn hf
  have cv : ∀ V, checkC ⟨4, t, s, x, es, m0, m1, m2⟩ = V → V = checkC ⟨4, t, s, x, es, m0, m1, m2⟩ := fun V h => h.symm
  cases q1 : withinB t with
  | false =>
    rw [q1] at k1
    have hv : checkC ⟨4, t, s, x, es, m0, m1, m2⟩ = 1 := by simp [checkC, q1]
    rw [hv]
    have K1 := Lib.hid k1
    clear hv cv k1 k2 k3 k4 k5 k6
    clear q1
    go_enter Try.func12, Try.ntmps12
    go_wp2_with fail
    (try rw [hW])
    go_wp2_with (first
      | (go_at_call 34; refine (K1.out _).mono ?_; rintro e w1 ⟨rfl, rfl⟩)
      | (go_at_call 35; refine (K2.out _).mono ?_; rintro e w1 ⟨rfl, rfl⟩)
      | (go_at_call 37; refine (K3.out _).mono ?_; rintro e w1 ⟨rfl, rfl⟩)
      | (go_at_call 36; refine K6.out.mono ?_; rintro e w1 ⟨rfl, hb1⟩; have hc1 := (HM.out.below hb1 HM.out.lt).cell; have HB := Lib.hid (HB.out.trans (hb1.mono HB.out.size)); clear hb1)
      | (go_at_call 27; refine (K4.out _).mono ?_; rintro e w2 ⟨rfl, hb2⟩; have hc2 := (HM.out.below hb2 HM.out.lt).cell; have HB := Lib.hid (HB.out.trans (hb2.mono HB.out.size)); clear hb2)
      | (go_at_call 38; refine (K5.out _).mono ?_; rintro e w3 ⟨rfl, hb3⟩; have HB := Lib.hid (HB.out.trans (hb3.mono HB.out.size)); clear hb3))
    go_ret
    exact ⟨rfl, HB.out⟩
  | true =>
    rw [q1] at k1
    cases q5 : spareB ⟨4, t, s, x, es, m0, m1, m2⟩ with
    | false =>
      rw [q5] at k5
      have hv : checkC ⟨4, t, s, x, es, m0, m1, m2⟩ = 0 := by simp [checkC, q1, q5]
      rw [hv]
      have K1 := Lib.hid k1
      have K5 := Lib.hid k5
      clear hv cv k1 k2 k3 k4 k5 k6
      clear q1 q5
      go_enter Try.func12, Try.ntmps12
      go_wp2_with fail
      (try rw [hW])
      go_wp2_with (first
        | (go_at_call 34; refine (K1.out _).mono ?_; rintro e w1 ⟨rfl, rfl⟩)
        | (go_at_call 35; refine (K2.out _).mono ?_; rintro e w1 ⟨rfl, rfl⟩)
        | (go_at_call 37; refine (K3.out _).mono ?_; rintro e w1 ⟨rfl, rfl⟩)
        | (go_at_call 36; refine K6.out.mono ?_; rintro e w1 ⟨rfl, hb1⟩; have hc1 := (HM.out.below hb1 HM.out.lt).cell; have HB := Lib.hid (HB.out.trans (hb1.mono HB.out.size)); clear hb1)
        | (go_at_call 27; refine (K4.out _).mono ?_; rintro e w2 ⟨rfl, hb2⟩; have hc2 := (HM.out.below hb2 HM.out.lt).cell; have HB := Lib.hid (HB.out.trans (hb2.mono HB.out.size)); clear hb2)
        | (go_at_call 38; refine (K5.out _).mono ?_; rintro e w3 ⟨rfl, hb3⟩; have HB := Lib.hid (HB.out.trans (hb3.mono HB.out.size)); clear hb3))
      go_ret
      exact ⟨rfl, HB.out⟩
    | true =>
      rw [q5] at k5
      have hv : checkC ⟨4, t, s, x, es, m0, m1, m2⟩ = 1 := by simp [checkC, q1, q5]
      rw [hv]
      have K1 := Lib.hid k1
      have K5 := Lib.hid k5
      clear hv cv k1 k2 k3 k4 k5 k6
      clear q1 q5
      go_enter Try.func12, Try.ntmps12
      go_wp2_with fail
      (try rw [hW])
      go_wp2_with (first
        | (go_at_call 34; refine (K1.out _).mono ?_; rintro e w1 ⟨rfl, rfl⟩)
        | (go_at_call 35; refine (K2.out _).mono ?_; rintro e w1 ⟨rfl, rfl⟩)
        | (go_at_call 37; refine (K3.out _).mono ?_; rintro e w1 ⟨rfl, rfl⟩)
        | (go_at_call 36; refine K6.out.mono ?_; rintro e w1 ⟨rfl, hb1⟩; have hc1 := (HM.out.below hb1 HM.out.lt).cell; have HB := Lib.hid (HB.out.trans (hb1.mono HB.out.size)); clear hb1)
        | (go_at_call 27; refine (K4.out _).mono ?_; rintro e w2 ⟨rfl, hb2⟩; have hc2 := (HM.out.below hb2 HM.out.lt).cell; have HB := Lib.hid (HB.out.trans (hb2.mono HB.out.size)); clear hb2)
        | (go_at_call 38; refine (K5.out _).mono ?_; rintro e w3 ⟨rfl, hb3⟩; have HB := Lib.hid (HB.out.trans (hb3.mono HB.out.size)); clear hb3))
      go_ret
      exact ⟨rfl, HB.out⟩
theorem check_5 (t : Int) (s : ByteArray) (x : Int) (A : Option Addr) (n cap B : Nat) (es : List Ev) (m0 m1 m2 : Int) (w : World) (hr : SlR w B 4 A n (evVs es)) (hB : B ≤ w.heap.size) (hn : n ≤ 1000000000) (hf : ∀ e ∈ es, e.fits) (hs : s.size ≤ 9223372036854775807) :
    Calls Try.prog 12 #[.agg #[.int .i64 5, .int .i64 t, .string s, .int .i64 x, .slice A n cap, .int .i64 m0, .int .i64 m1, .int .i64 m2]] w fun e w' => e = .returned (.int .i64 (checkC ⟨5, t, s, x, es, m0, m1, m2⟩)) ∧ Below w.heap.size w w' := by
  have hl : es.length = n := by have := hr.len; rw [evVs_length] at this; omega
  obtain ⟨W, hW⟩ : ∃ W, w.alloc (.cells #[.int .i64 5, .int .i64 t, .string s, .int .i64 x, .slice A n cap, .int .i64 m0, .int .i64 m1, .int .i64 m2] 26) = W := ⟨_, rfl⟩
  have hM : BlkIs W w.heap.size 26 #[.int .i64 5, .int .i64 t, .string s, .int .i64 x, .slice A n cap, .int .i64 m0, .int .i64 m1, .int .i64 m2] := by rw [← hW]; exact BlkIs.new _ _ _
  have hb0 : Below w.heap.size w W := by rw [← hW]; exact (Below.refl _ _).alloc (Nat.le_refl _) _
  have hr0 := hr.below (hb0.mono hB)
  have hcW := hM.cell; have hlW := hM.lt
  have HM := Lib.hid hM; have Hr := Lib.hid hr0; have HB := Lib.hid hb0
  clear hM hr hr0 hb0
  have k1 := fun w => within_any t w
  have k2 := fun w => stream_any s w hs
  have k3 := fun w => expects_any x w
  have k4 := fun w => meta_any m0 m1 m2 w
  have k5 := fun w => spare_any 5 t s x A n cap es m0 m1 m2 w hl
  have k6 := events_any A n cap B es W Hr.out (Nat.le_trans hB HB.out.size) hn hf
  have cv : ∀ V, checkC ⟨5, t, s, x, es, m0, m1, m2⟩ = V → V = checkC ⟨5, t, s, x, es, m0, m1, m2⟩ := fun V h => h.symm
  cases q1 : withinB t with
  | false =>
    rw [q1] at k1
    have hv : checkC ⟨5, t, s, x, es, m0, m1, m2⟩ = 1 := by simp [checkC, q1]
    rw [hv]
    have K1 := Lib.hid k1
    clear hv cv k1 k2 k3 k4 k5 k6
    clear q1
    go_enter Try.func12, Try.ntmps12
    go_wp2_with fail
    (try rw [hW])
    go_wp2_with (first
      | (go_at_call 34; refine (K1.out _).mono ?_; rintro e w1 ⟨rfl, rfl⟩)
      | (go_at_call 35; refine (K2.out _).mono ?_; rintro e w1 ⟨rfl, rfl⟩)
      | (go_at_call 37; refine (K3.out _).mono ?_; rintro e w1 ⟨rfl, rfl⟩)
      | (go_at_call 36; refine K6.out.mono ?_; rintro e w1 ⟨rfl, hb1⟩; have hc1 := (HM.out.below hb1 HM.out.lt).cell; have HB := Lib.hid (HB.out.trans (hb1.mono HB.out.size)); clear hb1)
      | (go_at_call 27; refine (K4.out _).mono ?_; rintro e w2 ⟨rfl, hb2⟩; have hc2 := (HM.out.below hb2 HM.out.lt).cell; have HB := Lib.hid (HB.out.trans (hb2.mono HB.out.size)); clear hb2)
      | (go_at_call 38; refine (K5.out _).mono ?_; rintro e w3 ⟨rfl, hb3⟩; have HB := Lib.hid (HB.out.trans (hb3.mono HB.out.size)); clear hb3))
    go_ret
    exact ⟨rfl, HB.out⟩
  | true =>
    rw [q1] at k1
    cases q5 : spareB ⟨5, t, s, x, es, m0, m1, m2⟩ with
    | false =>
      rw [q5] at k5
      have hv : checkC ⟨5, t, s, x, es, m0, m1, m2⟩ = 0 := by simp [checkC, q1, q5]
      rw [hv]
      have K1 := Lib.hid k1
      have K5 := Lib.hid k5
      clear hv cv k1 k2 k3 k4 k5 k6
      clear q1 q5
      go_enter Try.func12, Try.ntmps12
      go_wp2_with fail
      (try rw [hW])
      go_wp2_with (first
        | (go_at_call 34; refine (K1.out _).mono ?_; rintro e w1 ⟨rfl, rfl⟩)
        | (go_at_call 35; refine (K2.out _).mono ?_; rintro e w1 ⟨rfl, rfl⟩)
        | (go_at_call 37; refine (K3.out _).mono ?_; rintro e w1 ⟨rfl, rfl⟩)
        | (go_at_call 36; refine K6.out.mono ?_; rintro e w1 ⟨rfl, hb1⟩; have hc1 := (HM.out.below hb1 HM.out.lt).cell; have HB := Lib.hid (HB.out.trans (hb1.mono HB.out.size)); clear hb1)
        | (go_at_call 27; refine (K4.out _).mono ?_; rintro e w2 ⟨rfl, hb2⟩; have hc2 := (HM.out.below hb2 HM.out.lt).cell; have HB := Lib.hid (HB.out.trans (hb2.mono HB.out.size)); clear hb2)
        | (go_at_call 38; refine (K5.out _).mono ?_; rintro e w3 ⟨rfl, hb3⟩; have HB := Lib.hid (HB.out.trans (hb3.mono HB.out.size)); clear hb3))
      go_ret
      exact ⟨rfl, HB.out⟩
    | true =>
      rw [q5] at k5
      have hv : checkC ⟨5, t, s, x, es, m0, m1, m2⟩ = 1 := by simp [checkC, q1, q5]
      rw [hv]
      have K1 := Lib.hid k1
      have K5 := Lib.hid k5
      clear hv cv k1 k2 k3 k4 k5 k6
      clear q1 q5
      go_enter Try.func12, Try.ntmps12
      go_wp2_with fail
      (try rw [hW])
      go_wp2_with (first
        | (go_at_call 34; refine (K1.out _).mono ?_; rintro e w1 ⟨rfl, rfl⟩)
        | (go_at_call 35; refine (K2.out _).mono ?_; rintro e w1 ⟨rfl, rfl⟩)
        | (go_at_call 37; refine (K3.out _).mono ?_; rintro e w1 ⟨rfl, rfl⟩)
        | (go_at_call 36; refine K6.out.mono ?_; rintro e w1 ⟨rfl, hb1⟩; have hc1 := (HM.out.below hb1 HM.out.lt).cell; have HB := Lib.hid (HB.out.trans (hb1.mono HB.out.size)); clear hb1)
        | (go_at_call 27; refine (K4.out _).mono ?_; rintro e w2 ⟨rfl, hb2⟩; have hc2 := (HM.out.below hb2 HM.out.lt).cell; have HB := Lib.hid (HB.out.trans (hb2.mono HB.out.size)); clear hb2)
        | (go_at_call 38; refine (K5.out _).mono ?_; rintro e w3 ⟨rfl, hb3⟩; have HB := Lib.hid (HB.out.trans (hb3.mono HB.out.size)); clear hb3))
      go_ret
      exact ⟨rfl, HB.out⟩
theorem check_out (k t : Int) (s : ByteArray) (x : Int) (A : Option Addr) (n cap B : Nat) (es : List Ev) (m0 m1 m2 : Int) (w : World) (hr : SlR w B 4 A n (evVs es)) (hB : B ≤ w.heap.size) (hn : n ≤ 1000000000) (hf : ∀ e ∈ es, e.fits) (hs : s.size ≤ 9223372036854775807) (hout : k < 1 ∨ 5 < k) :
    Calls Try.prog 12 #[.agg #[.int .i64 k, .int .i64 t, .string s, .int .i64 x, .slice A n cap, .int .i64 m0, .int .i64 m1, .int .i64 m2]] w fun e w' => e = .returned (.int .i64 (checkC ⟨k, t, s, x, es, m0, m1, m2⟩)) ∧ Below w.heap.size w w' := by
  have hl : es.length = n := by have := hr.len; rw [evVs_length] at this; omega
  obtain ⟨W, hW⟩ : ∃ W, w.alloc (.cells #[.int .i64 k, .int .i64 t, .string s, .int .i64 x, .slice A n cap, .int .i64 m0, .int .i64 m1, .int .i64 m2] 26) = W := ⟨_, rfl⟩
  have hM : BlkIs W w.heap.size 26 #[.int .i64 k, .int .i64 t, .string s, .int .i64 x, .slice A n cap, .int .i64 m0, .int .i64 m1, .int .i64 m2] := by rw [← hW]; exact BlkIs.new _ _ _
  have hb0 : Below w.heap.size w W := by rw [← hW]; exact (Below.refl _ _).alloc (Nat.le_refl _) _
  have hr0 := hr.below (hb0.mono hB)
  have hcW := hM.cell; have hlW := hM.lt
  have HM := Lib.hid hM; have Hr := Lib.hid hr0; have HB := Lib.hid hb0
  clear hM hr hr0 hb0
  have k1 := fun w => within_any t w
  have k2 := fun w => stream_any s w hs
  have k3 := fun w => expects_any x w
  have k4 := fun w => meta_any m0 m1 m2 w
  have k5 := fun w => spare_any k t s x A n cap es m0 m1 m2 w hl
  have k6 := events_any A n cap B es W Hr.out (Nat.le_trans hB HB.out.size) hn hf
  have cv : ∀ V, checkC ⟨k, t, s, x, es, m0, m1, m2⟩ = V → V = checkC ⟨k, t, s, x, es, m0, m1, m2⟩ := fun V h => h.symm
  by_cases hk : k < 1
  · have dk : decide (k < 1) = true := decide_eq_true hk
    have hv : checkC ⟨k, t, s, x, es, m0, m1, m2⟩ = 1 := by simp [checkC, hk]
    rw [hv]
    clear hv cv k1 k2 k3 k4 k5 k6
    go_enter Try.func12, Try.ntmps12
    go_wp2_with fail
    (try rw [hW])
    go_wp2_with (first
      | (go_at_call 34; refine (K1.out _).mono ?_; rintro e w1 ⟨rfl, rfl⟩)
      | (go_at_call 35; refine (K2.out _).mono ?_; rintro e w1 ⟨rfl, rfl⟩)
      | (go_at_call 37; refine (K3.out _).mono ?_; rintro e w1 ⟨rfl, rfl⟩)
      | (go_at_call 36; refine K6.out.mono ?_; rintro e w1 ⟨rfl, hb1⟩; have hc1 := (HM.out.below hb1 HM.out.lt).cell; have HB := Lib.hid (HB.out.trans (hb1.mono HB.out.size)); clear hb1)
      | (go_at_call 27; refine (K4.out _).mono ?_; rintro e w2 ⟨rfl, hb2⟩; have hc2 := (HM.out.below hb2 HM.out.lt).cell; have HB := Lib.hid (HB.out.trans (hb2.mono HB.out.size)); clear hb2)
      | (go_at_call 38; refine (K5.out _).mono ?_; rintro e w3 ⟨rfl, hb3⟩; have HB := Lib.hid (HB.out.trans (hb3.mono HB.out.size)); clear hb3))
    go_ret
    exact ⟨rfl, HB.out⟩
  · have dk : decide (k < 1) = false := decide_eq_false hk
    have hk5 : 5 < k := by omega
    have dk5 : decide (5 < k) = true := decide_eq_true hk5
    have hv : checkC ⟨k, t, s, x, es, m0, m1, m2⟩ = 1 := by simp [checkC, hk5]
    rw [hv]
    clear hv cv k1 k2 k3 k4 k5 k6
    go_enter Try.func12, Try.ntmps12
    go_wp2_with fail
    (try rw [hW])
    go_wp2_with (first
      | (go_at_call 34; refine (K1.out _).mono ?_; rintro e w1 ⟨rfl, rfl⟩)
      | (go_at_call 35; refine (K2.out _).mono ?_; rintro e w1 ⟨rfl, rfl⟩)
      | (go_at_call 37; refine (K3.out _).mono ?_; rintro e w1 ⟨rfl, rfl⟩)
      | (go_at_call 36; refine K6.out.mono ?_; rintro e w1 ⟨rfl, hb1⟩; have hc1 := (HM.out.below hb1 HM.out.lt).cell; have HB := Lib.hid (HB.out.trans (hb1.mono HB.out.size)); clear hb1)
      | (go_at_call 27; refine (K4.out _).mono ?_; rintro e w2 ⟨rfl, hb2⟩; have hc2 := (HM.out.below hb2 HM.out.lt).cell; have HB := Lib.hid (HB.out.trans (hb2.mono HB.out.size)); clear hb2)
      | (go_at_call 38; refine (K5.out _).mono ?_; rintro e w3 ⟨rfl, hb3⟩; have HB := Lib.hid (HB.out.trans (hb3.mono HB.out.size)); clear hb3))
    go_ret
    exact ⟨rfl, HB.out⟩
theorem check_any (k t : Int) (s : ByteArray) (x : Int) (A : Option Addr) (n cap B : Nat) (es : List Ev) (m0 m1 m2 : Int) (w : World) (hr : SlR w B 4 A n (evVs es)) (hB : B ≤ w.heap.size) (hn : n ≤ 1000000000) (hf : ∀ e ∈ es, e.fits) (hs : s.size ≤ 9223372036854775807) :
    Calls Try.prog 12 #[.agg #[.int .i64 k, .int .i64 t, .string s, .int .i64 x, .slice A n cap, .int .i64 m0, .int .i64 m1, .int .i64 m2]] w fun e w' => e = .returned (.int .i64 (checkC ⟨k, t, s, x, es, m0, m1, m2⟩)) ∧ Below w.heap.size w w' := by
  by_cases h : k < 1 ∨ 5 < k
  · exact check_out k t s x A n cap B es m0 m1 m2 w hr hB hn hf hs h
  · have h5 : k = 1 ∨ k = 2 ∨ k = 3 ∨ k = 4 ∨ k = 5 := by omega
    rcases h5 with rfl | rfl | rfl | rfl | rfl
    · exact check_1 t s x A n cap B es m0 m1 m2 w hr hB hn hf hs
    · exact check_2 t s x A n cap B es m0 m1 m2 w hr hB hn hf hs
    · exact check_3 t s x A n cap B es m0 m1 m2 w hr hB hn hf hs
    · exact check_4 t s x A n cap B es m0 m1 m2 w hr hB hn hf hs
    · exact check_5 t s x A n cap B es m0 m1 m2 w hr hB hn hf hs
end Go.Proofs.Ytfpalamoaflilaa
