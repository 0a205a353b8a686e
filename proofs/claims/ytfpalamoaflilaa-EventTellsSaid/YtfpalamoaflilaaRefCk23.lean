/- chronicleref7: may a command be (kinds 2, 3)? (printed by mkrefck.py) -/
import Derived.Test.YtfpalamoaflilaaRefCk
namespace Go.Proofs.Ytfpalamoaflilaa
open Go.RowKit
set_option maxHeartbeats 2000000
set_option maxRecDepth 100000
set_option linter.unusedVariables false
attribute [local go_sem] run_store_flt

theorem refCheck_2 (t : Int) (s : ByteArray) (x : Int) (A : Option Addr) (n cap B : Nat) (es : List Ev) (m0 m1 m2 : Int) (w : World) (hr : SlR w B 4 A n (evVs es)) (hB : B ≤ w.heap.size) (hn : n ≤ 1000000000) (hf : ∀ e ∈ es, e.fits) (hs : s.size ≤ 9223372036854775807) :
    Calls Try.prog 29 #[.agg #[.int .i64 2, .int .i64 t, .string s, .int .i64 x, .slice A n cap, .int .i64 m0, .int .i64 m1, .int .i64 m2]] w fun e w' => e = .returned (.int .i64 (checkC ⟨2, t, s, x, es, m0, m1, m2⟩)) ∧ Below w.heap.size w w' := by
  have hl : es.length = n := by have := hr.len; rw [evVs_length] at this; omega
  obtain ⟨W, hW⟩ : ∃ W, w.alloc (.cells #[.int .i64 2, .int .i64 t, .string s, .int .i64 x, .slice A n cap, .int .i64 m0, .int .i64 m1, .int .i64 m2] 26) = W := ⟨_, rfl⟩
  have hM : BlkIs W w.heap.size 26 #[.int .i64 2, .int .i64 t, .string s, .int .i64 x, .slice A n cap, .int .i64 m0, .int .i64 m1, .int .i64 m2] := by rw [← hW]; exact BlkIs.new _ _ _
  have hb0 : Below w.heap.size w W := by rw [← hW]; exact (Below.refl _ _).alloc (Nat.le_refl _) _
  have hr0 := hr.below (hb0.mono hB)
  have hcW := hM.cell; have hlW := hM.lt
  have HM := Lib.hid hM; have Hr := Lib.hid hr0; have HB := Lib.hid hb0; have Hf := Lib.hid hf; have Hl := Lib.hid hl
  have k2 := fun w => refStream_any s w hs
  have k4 := fun w => refMeta7_any m0 m1 m2 w
  clear hM hr hr0 hb0 hf
  by_cases t0 : t < 0
  · have dt0 : decide (t < 0) = true := decide_eq_true t0
    have qt : withinB t = false := by unfold withinB; simp; omega
    clear t0
    have hv : checkC ⟨2, t, s, x, es, m0, m1, m2⟩ = 1 := by unfold checkC; dsimp only; simp [qt, spareB]
    rw [hv]
    clear hv k2 k4 qt
    go_enter Try.func29, Try.ntmps29
    go_wp2_with fail
    (try rw [hW])
    go_wp2_with (first
    | (go_at_call 45; refine (K2.out _).mono ?_; rintro e w1 ⟨rfl, rfl⟩)
    | (go_at_call 28; refine (K4.out _).mono ?_; rintro e w2 ⟨rfl, hb2⟩; have hc2 := (HM.out.below hb2 HM.out.lt).cell; have HB := Lib.hid (HB.out.trans (hb2.mono HB.out.size)); clear hb2))
    go_ret
    exact ⟨rfl, HB.out⟩
  · have dt0 : decide (t < 0) = false := decide_eq_false t0
    by_cases t1 : 1099511627776 < t
    · have dt1 : decide (1099511627776 < t) = true := decide_eq_true t1
      have qt : withinB t = false := by unfold withinB; simp; omega
      clear t0 t1
      have hv : checkC ⟨2, t, s, x, es, m0, m1, m2⟩ = 1 := by unfold checkC; dsimp only; simp [qt, spareB]
      rw [hv]
      clear hv k2 k4 qt
      go_enter Try.func29, Try.ntmps29
      go_wp2_with fail
      (try rw [hW])
      go_wp2_with (first
    | (go_at_call 45; refine (K2.out _).mono ?_; rintro e w1 ⟨rfl, rfl⟩)
    | (go_at_call 28; refine (K4.out _).mono ?_; rintro e w2 ⟨rfl, hb2⟩; have hc2 := (HM.out.below hb2 HM.out.lt).cell; have HB := Lib.hid (HB.out.trans (hb2.mono HB.out.size)); clear hb2))
      go_ret
      exact ⟨rfl, HB.out⟩
    · have dt1 : decide (1099511627776 < t) = false := decide_eq_false t1
      have qt : withinB t = true := by unfold withinB; simp; omega
      clear t0 t1
      cases q2 : nameB s with
      | false =>
        simp only [q2] at k2
        have hv : checkC ⟨2, t, s, x, es, m0, m1, m2⟩ = 1 := by unfold checkC; dsimp only; simp [qt, q2, spareB]
        rw [hv]
        have K2 := Lib.hid k2
        clear hv k2 k4 qt q2
        go_enter Try.func29, Try.ntmps29
        go_wp2_with fail
        (try rw [hW])
        go_wp2_with (first
    | (go_at_call 45; refine (K2.out _).mono ?_; rintro e w1 ⟨rfl, rfl⟩)
    | (go_at_call 28; refine (K4.out _).mono ?_; rintro e w2 ⟨rfl, hb2⟩; have hc2 := (HM.out.below hb2 HM.out.lt).cell; have HB := Lib.hid (HB.out.trans (hb2.mono HB.out.size)); clear hb2))
        go_ret
        exact ⟨rfl, HB.out⟩
      | true =>
        simp only [q2] at k2
        cases q4 : metaB m0 m1 m2 with
        | false =>
          simp only [q4] at k4
          have hv : checkC ⟨2, t, s, x, es, m0, m1, m2⟩ = 1 := by unfold checkC; dsimp only; simp [qt, q2, q4, spareB]
          rw [hv]
          have K2 := Lib.hid k2
          have K4 := Lib.hid k4
          clear hv k2 k4 qt q2 q4
          go_enter Try.func29, Try.ntmps29
          go_wp2_with fail
          (try rw [hW])
          go_wp2_with (first
    | (go_at_call 45; refine (K2.out _).mono ?_; rintro e w1 ⟨rfl, rfl⟩)
    | (go_at_call 28; refine (K4.out _).mono ?_; rintro e w2 ⟨rfl, hb2⟩; have hc2 := (HM.out.below hb2 HM.out.lt).cell; have HB := Lib.hid (HB.out.trans (hb2.mono HB.out.size)); clear hb2))
          go_ret
          exact ⟨rfl, HB.out⟩
        | true =>
          simp only [q4] at k4
          by_cases n0 : 0 < n
          · have dn : decide ((0 : Int) < (n : Int)) = true := decide_eq_true (by omega)
            have qe : decide (0 < es.length) = true := decide_eq_true (by omega)
            have hv : checkC ⟨2, t, s, x, es, m0, m1, m2⟩ = 1 := by unfold checkC; dsimp only; simp [qt, q2, q4, qe, spareB]
            rw [hv]
            have K2 := Lib.hid k2
            have K4 := Lib.hid k4
            clear hv k2 k4 qt q2 q4 qe
            go_enter Try.func29, Try.ntmps29
            go_wp2_with fail
            (try rw [hW])
            go_wp2_with (first
    | (go_at_call 45; refine (K2.out _).mono ?_; rintro e w1 ⟨rfl, rfl⟩)
    | (go_at_call 28; refine (K4.out _).mono ?_; rintro e w2 ⟨rfl, hb2⟩; have hc2 := (HM.out.below hb2 HM.out.lt).cell; have HB := Lib.hid (HB.out.trans (hb2.mono HB.out.size)); clear hb2))
            go_ret
            exact ⟨rfl, HB.out⟩
          · have dn : decide ((0 : Int) < (n : Int)) = false := decide_eq_false (by omega)
            have qe : decide (0 < es.length) = false := decide_eq_false (by omega)
            by_cases x0 : x = 0
            · have nx0 : (x != 0) = false := by rw [bne_eq_false_iff_eq]; exact x0
              have qx : decide (x = 0) = true := decide_eq_true x0
              clear x0
              have hv : checkC ⟨2, t, s, x, es, m0, m1, m2⟩ = 0 := by unfold checkC; dsimp only; simp [qt, q2, q4, qe, qx, spareB]
              rw [hv]
              have K2 := Lib.hid k2
              have K4 := Lib.hid k4
              clear hv k2 k4 qt q2 q4 qe qx
              go_enter Try.func29, Try.ntmps29
              go_wp2_with fail
              (try rw [hW])
              go_wp2_with (first
    | (go_at_call 45; refine (K2.out _).mono ?_; rintro e w1 ⟨rfl, rfl⟩)
    | (go_at_call 28; refine (K4.out _).mono ?_; rintro e w2 ⟨rfl, hb2⟩; have hc2 := (HM.out.below hb2 HM.out.lt).cell; have HB := Lib.hid (HB.out.trans (hb2.mono HB.out.size)); clear hb2))
              go_ret
              exact ⟨rfl, HB.out⟩
            · have nx0 : (x != 0) = true := by rw [bne_iff_ne]; exact x0
              have qx : decide (x = 0) = false := decide_eq_false x0
              clear x0
              have hv : checkC ⟨2, t, s, x, es, m0, m1, m2⟩ = 1 := by unfold checkC; dsimp only; simp [qt, q2, q4, qe, qx, spareB]
              rw [hv]
              have K2 := Lib.hid k2
              have K4 := Lib.hid k4
              clear hv k2 k4 qt q2 q4 qe qx
              go_enter Try.func29, Try.ntmps29
              go_wp2_with fail
              (try rw [hW])
              go_wp2_with (first
    | (go_at_call 45; refine (K2.out _).mono ?_; rintro e w1 ⟨rfl, rfl⟩)
    | (go_at_call 28; refine (K4.out _).mono ?_; rintro e w2 ⟨rfl, hb2⟩; have hc2 := (HM.out.below hb2 HM.out.lt).cell; have HB := Lib.hid (HB.out.trans (hb2.mono HB.out.size)); clear hb2))
              go_ret
              exact ⟨rfl, HB.out⟩

theorem refCheck_3 (t : Int) (s : ByteArray) (x : Int) (A : Option Addr) (n cap B : Nat) (es : List Ev) (m0 m1 m2 : Int) (w : World) (hr : SlR w B 4 A n (evVs es)) (hB : B ≤ w.heap.size) (hn : n ≤ 1000000000) (hf : ∀ e ∈ es, e.fits) (hs : s.size ≤ 9223372036854775807) :
    Calls Try.prog 29 #[.agg #[.int .i64 3, .int .i64 t, .string s, .int .i64 x, .slice A n cap, .int .i64 m0, .int .i64 m1, .int .i64 m2]] w fun e w' => e = .returned (.int .i64 (checkC ⟨3, t, s, x, es, m0, m1, m2⟩)) ∧ Below w.heap.size w w' := by
  have hl : es.length = n := by have := hr.len; rw [evVs_length] at this; omega
  obtain ⟨W, hW⟩ : ∃ W, w.alloc (.cells #[.int .i64 3, .int .i64 t, .string s, .int .i64 x, .slice A n cap, .int .i64 m0, .int .i64 m1, .int .i64 m2] 26) = W := ⟨_, rfl⟩
  have hM : BlkIs W w.heap.size 26 #[.int .i64 3, .int .i64 t, .string s, .int .i64 x, .slice A n cap, .int .i64 m0, .int .i64 m1, .int .i64 m2] := by rw [← hW]; exact BlkIs.new _ _ _
  have hb0 : Below w.heap.size w W := by rw [← hW]; exact (Below.refl _ _).alloc (Nat.le_refl _) _
  have hr0 := hr.below (hb0.mono hB)
  have hcW := hM.cell; have hlW := hM.lt
  have HM := Lib.hid hM; have Hr := Lib.hid hr0; have HB := Lib.hid hb0; have Hf := Lib.hid hf; have Hl := Lib.hid hl
  have k2 := fun w => refStream_any s w hs
  have k4 := fun w => refMeta7_any m0 m1 m2 w
  clear hM hr hr0 hb0 hf
  by_cases t0 : t < 0
  · have dt0 : decide (t < 0) = true := decide_eq_true t0
    have qt : withinB t = false := by unfold withinB; simp; omega
    clear t0
    have hv : checkC ⟨3, t, s, x, es, m0, m1, m2⟩ = 1 := by unfold checkC; dsimp only; simp [qt, spareB]
    rw [hv]
    clear hv k2 k4 qt
    go_enter Try.func29, Try.ntmps29
    go_wp2_with fail
    (try rw [hW])
    go_wp2_with (first
    | (go_at_call 45; refine (K2.out _).mono ?_; rintro e w1 ⟨rfl, rfl⟩)
    | (go_at_call 28; refine (K4.out _).mono ?_; rintro e w2 ⟨rfl, hb2⟩; have hc2 := (HM.out.below hb2 HM.out.lt).cell; have HB := Lib.hid (HB.out.trans (hb2.mono HB.out.size)); clear hb2))
    go_ret
    exact ⟨rfl, HB.out⟩
  · have dt0 : decide (t < 0) = false := decide_eq_false t0
    by_cases t1 : 1099511627776 < t
    · have dt1 : decide (1099511627776 < t) = true := decide_eq_true t1
      have qt : withinB t = false := by unfold withinB; simp; omega
      clear t0 t1
      have hv : checkC ⟨3, t, s, x, es, m0, m1, m2⟩ = 1 := by unfold checkC; dsimp only; simp [qt, spareB]
      rw [hv]
      clear hv k2 k4 qt
      go_enter Try.func29, Try.ntmps29
      go_wp2_with fail
      (try rw [hW])
      go_wp2_with (first
    | (go_at_call 45; refine (K2.out _).mono ?_; rintro e w1 ⟨rfl, rfl⟩)
    | (go_at_call 28; refine (K4.out _).mono ?_; rintro e w2 ⟨rfl, hb2⟩; have hc2 := (HM.out.below hb2 HM.out.lt).cell; have HB := Lib.hid (HB.out.trans (hb2.mono HB.out.size)); clear hb2))
      go_ret
      exact ⟨rfl, HB.out⟩
    · have dt1 : decide (1099511627776 < t) = false := decide_eq_false t1
      have qt : withinB t = true := by unfold withinB; simp; omega
      clear t0 t1
      cases q2 : nameB s with
      | false =>
        simp only [q2] at k2
        have hv : checkC ⟨3, t, s, x, es, m0, m1, m2⟩ = 1 := by unfold checkC; dsimp only; simp [qt, q2, spareB]
        rw [hv]
        have K2 := Lib.hid k2
        clear hv k2 k4 qt q2
        go_enter Try.func29, Try.ntmps29
        go_wp2_with fail
        (try rw [hW])
        go_wp2_with (first
    | (go_at_call 45; refine (K2.out _).mono ?_; rintro e w1 ⟨rfl, rfl⟩)
    | (go_at_call 28; refine (K4.out _).mono ?_; rintro e w2 ⟨rfl, hb2⟩; have hc2 := (HM.out.below hb2 HM.out.lt).cell; have HB := Lib.hid (HB.out.trans (hb2.mono HB.out.size)); clear hb2))
        go_ret
        exact ⟨rfl, HB.out⟩
      | true =>
        simp only [q2] at k2
        by_cases x1 : x = -1
        · have nx1 : (x != -1) = false := by rw [bne_eq_false_iff_eq]; exact x1
          have qx : expectsB x = true := by unfold expectsB; simp [x1]
          clear x1
          by_cases n0 : 0 < n
          · have dn : decide ((0 : Int) < (n : Int)) = true := decide_eq_true (by omega)
            have qe : decide (0 < es.length) = true := decide_eq_true (by omega)
            have hv : checkC ⟨3, t, s, x, es, m0, m1, m2⟩ = 1 := by unfold checkC; dsimp only; simp [qt, q2, qx, qe, spareB]
            rw [hv]
            have K2 := Lib.hid k2
            clear hv k2 k4 qt q2 qx qe
            go_enter Try.func29, Try.ntmps29
            go_wp2_with fail
            (try rw [hW])
            go_wp2_with (first
    | (go_at_call 45; refine (K2.out _).mono ?_; rintro e w1 ⟨rfl, rfl⟩)
    | (go_at_call 28; refine (K4.out _).mono ?_; rintro e w2 ⟨rfl, hb2⟩; have hc2 := (HM.out.below hb2 HM.out.lt).cell; have HB := Lib.hid (HB.out.trans (hb2.mono HB.out.size)); clear hb2))
            go_ret
            exact ⟨rfl, HB.out⟩
          · have dn : decide ((0 : Int) < (n : Int)) = false := decide_eq_false (by omega)
            have qe : decide (0 < es.length) = false := decide_eq_false (by omega)
            cases qm : (decide (m0 = 0) && (decide (m1 = 0) && decide (m2 = 0))) with
            | true =>
              have hme := meta_neql m0 m1 m2 false (by rw [qm]; rfl)
              have qn : (decide (m0 = 0) && decide (m1 = 0) && decide (m2 = 0)) = true := by rw [Bool.and_assoc]; exact qm
              have hv : checkC ⟨3, t, s, x, es, m0, m1, m2⟩ = 0 := by unfold checkC; dsimp only; simp [qt, q2, qx, qe, qn, spareB]
              rw [hv]
              have K2 := Lib.hid k2
              clear hv k2 k4 qt q2 qx qe qn
              go_enter Try.func29, Try.ntmps29
              go_wp2_with fail
              (try rw [hW])
              go_wp2_with (first
    | (go_at_call 45; refine (K2.out _).mono ?_; rintro e w1 ⟨rfl, rfl⟩)
    | (go_at_call 28; refine (K4.out _).mono ?_; rintro e w2 ⟨rfl, hb2⟩; have hc2 := (HM.out.below hb2 HM.out.lt).cell; have HB := Lib.hid (HB.out.trans (hb2.mono HB.out.size)); clear hb2))
              go_ret
              exact ⟨rfl, HB.out⟩
            | false =>
              have hme := meta_neql m0 m1 m2 true (by rw [qm]; rfl)
              have qn : (decide (m0 = 0) && decide (m1 = 0) && decide (m2 = 0)) = false := by rw [Bool.and_assoc]; exact qm
              have hv : checkC ⟨3, t, s, x, es, m0, m1, m2⟩ = 1 := by unfold checkC; dsimp only; simp [qt, q2, qx, qe, qn, spareB]
              rw [hv]
              have K2 := Lib.hid k2
              clear hv k2 k4 qt q2 qx qe qn
              go_enter Try.func29, Try.ntmps29
              go_wp2_with fail
              (try rw [hW])
              go_wp2_with (first
    | (go_at_call 45; refine (K2.out _).mono ?_; rintro e w1 ⟨rfl, rfl⟩)
    | (go_at_call 28; refine (K4.out _).mono ?_; rintro e w2 ⟨rfl, hb2⟩; have hc2 := (HM.out.below hb2 HM.out.lt).cell; have HB := Lib.hid (HB.out.trans (hb2.mono HB.out.size)); clear hb2))
              go_ret
              exact ⟨rfl, HB.out⟩
        · have nx1 : (x != -1) = true := by rw [bne_iff_ne]; exact x1
          by_cases x2 : x = -2
          · have nx2 : (x != -2) = false := by rw [bne_eq_false_iff_eq]; exact x2
            have qx : expectsB x = true := by unfold expectsB; simp [x2]
            clear x1 x2
            by_cases n0 : 0 < n
            · have dn : decide ((0 : Int) < (n : Int)) = true := decide_eq_true (by omega)
              have qe : decide (0 < es.length) = true := decide_eq_true (by omega)
              have hv : checkC ⟨3, t, s, x, es, m0, m1, m2⟩ = 1 := by unfold checkC; dsimp only; simp [qt, q2, qx, qe, spareB]
              rw [hv]
              have K2 := Lib.hid k2
              clear hv k2 k4 qt q2 qx qe
              go_enter Try.func29, Try.ntmps29
              go_wp2_with fail
              (try rw [hW])
              go_wp2_with (first
    | (go_at_call 45; refine (K2.out _).mono ?_; rintro e w1 ⟨rfl, rfl⟩)
    | (go_at_call 28; refine (K4.out _).mono ?_; rintro e w2 ⟨rfl, hb2⟩; have hc2 := (HM.out.below hb2 HM.out.lt).cell; have HB := Lib.hid (HB.out.trans (hb2.mono HB.out.size)); clear hb2))
              go_ret
              exact ⟨rfl, HB.out⟩
            · have dn : decide ((0 : Int) < (n : Int)) = false := decide_eq_false (by omega)
              have qe : decide (0 < es.length) = false := decide_eq_false (by omega)
              cases qm : (decide (m0 = 0) && (decide (m1 = 0) && decide (m2 = 0))) with
              | true =>
                have hme := meta_neql m0 m1 m2 false (by rw [qm]; rfl)
                have qn : (decide (m0 = 0) && decide (m1 = 0) && decide (m2 = 0)) = true := by rw [Bool.and_assoc]; exact qm
                have hv : checkC ⟨3, t, s, x, es, m0, m1, m2⟩ = 0 := by unfold checkC; dsimp only; simp [qt, q2, qx, qe, qn, spareB]
                rw [hv]
                have K2 := Lib.hid k2
                clear hv k2 k4 qt q2 qx qe qn
                go_enter Try.func29, Try.ntmps29
                go_wp2_with fail
                (try rw [hW])
                go_wp2_with (first
    | (go_at_call 45; refine (K2.out _).mono ?_; rintro e w1 ⟨rfl, rfl⟩)
    | (go_at_call 28; refine (K4.out _).mono ?_; rintro e w2 ⟨rfl, hb2⟩; have hc2 := (HM.out.below hb2 HM.out.lt).cell; have HB := Lib.hid (HB.out.trans (hb2.mono HB.out.size)); clear hb2))
                go_ret
                exact ⟨rfl, HB.out⟩
              | false =>
                have hme := meta_neql m0 m1 m2 true (by rw [qm]; rfl)
                have qn : (decide (m0 = 0) && decide (m1 = 0) && decide (m2 = 0)) = false := by rw [Bool.and_assoc]; exact qm
                have hv : checkC ⟨3, t, s, x, es, m0, m1, m2⟩ = 1 := by unfold checkC; dsimp only; simp [qt, q2, qx, qe, qn, spareB]
                rw [hv]
                have K2 := Lib.hid k2
                clear hv k2 k4 qt q2 qx qe qn
                go_enter Try.func29, Try.ntmps29
                go_wp2_with fail
                (try rw [hW])
                go_wp2_with (first
    | (go_at_call 45; refine (K2.out _).mono ?_; rintro e w1 ⟨rfl, rfl⟩)
    | (go_at_call 28; refine (K4.out _).mono ?_; rintro e w2 ⟨rfl, hb2⟩; have hc2 := (HM.out.below hb2 HM.out.lt).cell; have HB := Lib.hid (HB.out.trans (hb2.mono HB.out.size)); clear hb2))
                go_ret
                exact ⟨rfl, HB.out⟩
          · have nx2 : (x != -2) = true := by rw [bne_iff_ne]; exact x2
            by_cases x4 : x = -4
            · have nx4 : (x != -4) = false := by rw [bne_eq_false_iff_eq]; exact x4
              have qx : expectsB x = true := by unfold expectsB; simp [x4]
              clear x1 x2 x4
              by_cases n0 : 0 < n
              · have dn : decide ((0 : Int) < (n : Int)) = true := decide_eq_true (by omega)
                have qe : decide (0 < es.length) = true := decide_eq_true (by omega)
                have hv : checkC ⟨3, t, s, x, es, m0, m1, m2⟩ = 1 := by unfold checkC; dsimp only; simp [qt, q2, qx, qe, spareB]
                rw [hv]
                have K2 := Lib.hid k2
                clear hv k2 k4 qt q2 qx qe
                go_enter Try.func29, Try.ntmps29
                go_wp2_with fail
                (try rw [hW])
                go_wp2_with (first
    | (go_at_call 45; refine (K2.out _).mono ?_; rintro e w1 ⟨rfl, rfl⟩)
    | (go_at_call 28; refine (K4.out _).mono ?_; rintro e w2 ⟨rfl, hb2⟩; have hc2 := (HM.out.below hb2 HM.out.lt).cell; have HB := Lib.hid (HB.out.trans (hb2.mono HB.out.size)); clear hb2))
                go_ret
                exact ⟨rfl, HB.out⟩
              · have dn : decide ((0 : Int) < (n : Int)) = false := decide_eq_false (by omega)
                have qe : decide (0 < es.length) = false := decide_eq_false (by omega)
                cases qm : (decide (m0 = 0) && (decide (m1 = 0) && decide (m2 = 0))) with
                | true =>
                  have hme := meta_neql m0 m1 m2 false (by rw [qm]; rfl)
                  have qn : (decide (m0 = 0) && decide (m1 = 0) && decide (m2 = 0)) = true := by rw [Bool.and_assoc]; exact qm
                  have hv : checkC ⟨3, t, s, x, es, m0, m1, m2⟩ = 0 := by unfold checkC; dsimp only; simp [qt, q2, qx, qe, qn, spareB]
                  rw [hv]
                  have K2 := Lib.hid k2
                  clear hv k2 k4 qt q2 qx qe qn
                  go_enter Try.func29, Try.ntmps29
                  go_wp2_with fail
                  (try rw [hW])
                  go_wp2_with (first
    | (go_at_call 45; refine (K2.out _).mono ?_; rintro e w1 ⟨rfl, rfl⟩)
    | (go_at_call 28; refine (K4.out _).mono ?_; rintro e w2 ⟨rfl, hb2⟩; have hc2 := (HM.out.below hb2 HM.out.lt).cell; have HB := Lib.hid (HB.out.trans (hb2.mono HB.out.size)); clear hb2))
                  go_ret
                  exact ⟨rfl, HB.out⟩
                | false =>
                  have hme := meta_neql m0 m1 m2 true (by rw [qm]; rfl)
                  have qn : (decide (m0 = 0) && decide (m1 = 0) && decide (m2 = 0)) = false := by rw [Bool.and_assoc]; exact qm
                  have hv : checkC ⟨3, t, s, x, es, m0, m1, m2⟩ = 1 := by unfold checkC; dsimp only; simp [qt, q2, qx, qe, qn, spareB]
                  rw [hv]
                  have K2 := Lib.hid k2
                  clear hv k2 k4 qt q2 qx qe qn
                  go_enter Try.func29, Try.ntmps29
                  go_wp2_with fail
                  (try rw [hW])
                  go_wp2_with (first
    | (go_at_call 45; refine (K2.out _).mono ?_; rintro e w1 ⟨rfl, rfl⟩)
    | (go_at_call 28; refine (K4.out _).mono ?_; rintro e w2 ⟨rfl, hb2⟩; have hc2 := (HM.out.below hb2 HM.out.lt).cell; have HB := Lib.hid (HB.out.trans (hb2.mono HB.out.size)); clear hb2))
                  go_ret
                  exact ⟨rfl, HB.out⟩
            · have nx4 : (x != -4) = true := by rw [bne_iff_ne]; exact x4
              by_cases x5 : x < 0
              · have nx5 : decide (x < 0) = true := decide_eq_true x5
                have qx : expectsB x = false := by unfold expectsB withinB; simp; omega
                clear x1 x2 x4 x5
                have hv : checkC ⟨3, t, s, x, es, m0, m1, m2⟩ = 1 := by unfold checkC; dsimp only; simp [qt, q2, qx, spareB]
                rw [hv]
                have K2 := Lib.hid k2
                clear hv k2 k4 qt q2 qx
                go_enter Try.func29, Try.ntmps29
                go_wp2_with fail
                (try rw [hW])
                go_wp2_with (first
    | (go_at_call 45; refine (K2.out _).mono ?_; rintro e w1 ⟨rfl, rfl⟩)
    | (go_at_call 28; refine (K4.out _).mono ?_; rintro e w2 ⟨rfl, hb2⟩; have hc2 := (HM.out.below hb2 HM.out.lt).cell; have HB := Lib.hid (HB.out.trans (hb2.mono HB.out.size)); clear hb2))
                go_ret
                exact ⟨rfl, HB.out⟩
              · have nx5 : decide (x < 0) = false := decide_eq_false x5
                by_cases x6 : 1099511627776 < x
                · have nx6 : decide (1099511627776 < x) = true := decide_eq_true x6
                  have qx : expectsB x = false := by unfold expectsB withinB; simp; omega
                  clear x1 x2 x4 x5 x6
                  have hv : checkC ⟨3, t, s, x, es, m0, m1, m2⟩ = 1 := by unfold checkC; dsimp only; simp [qt, q2, qx, spareB]
                  rw [hv]
                  have K2 := Lib.hid k2
                  clear hv k2 k4 qt q2 qx
                  go_enter Try.func29, Try.ntmps29
                  go_wp2_with fail
                  (try rw [hW])
                  go_wp2_with (first
    | (go_at_call 45; refine (K2.out _).mono ?_; rintro e w1 ⟨rfl, rfl⟩)
    | (go_at_call 28; refine (K4.out _).mono ?_; rintro e w2 ⟨rfl, hb2⟩; have hc2 := (HM.out.below hb2 HM.out.lt).cell; have HB := Lib.hid (HB.out.trans (hb2.mono HB.out.size)); clear hb2))
                  go_ret
                  exact ⟨rfl, HB.out⟩
                · have nx6 : decide (1099511627776 < x) = false := decide_eq_false x6
                  have qx : expectsB x = true := by unfold expectsB withinB; simp; omega
                  clear x1 x2 x4 x5 x6
                  by_cases n0 : 0 < n
                  · have dn : decide ((0 : Int) < (n : Int)) = true := decide_eq_true (by omega)
                    have qe : decide (0 < es.length) = true := decide_eq_true (by omega)
                    have hv : checkC ⟨3, t, s, x, es, m0, m1, m2⟩ = 1 := by unfold checkC; dsimp only; simp [qt, q2, qx, qe, spareB]
                    rw [hv]
                    have K2 := Lib.hid k2
                    clear hv k2 k4 qt q2 qx qe
                    go_enter Try.func29, Try.ntmps29
                    go_wp2_with fail
                    (try rw [hW])
                    go_wp2_with (first
    | (go_at_call 45; refine (K2.out _).mono ?_; rintro e w1 ⟨rfl, rfl⟩)
    | (go_at_call 28; refine (K4.out _).mono ?_; rintro e w2 ⟨rfl, hb2⟩; have hc2 := (HM.out.below hb2 HM.out.lt).cell; have HB := Lib.hid (HB.out.trans (hb2.mono HB.out.size)); clear hb2))
                    go_ret
                    exact ⟨rfl, HB.out⟩
                  · have dn : decide ((0 : Int) < (n : Int)) = false := decide_eq_false (by omega)
                    have qe : decide (0 < es.length) = false := decide_eq_false (by omega)
                    cases qm : (decide (m0 = 0) && (decide (m1 = 0) && decide (m2 = 0))) with
                    | true =>
                      have hme := meta_neql m0 m1 m2 false (by rw [qm]; rfl)
                      have qn : (decide (m0 = 0) && decide (m1 = 0) && decide (m2 = 0)) = true := by rw [Bool.and_assoc]; exact qm
                      have hv : checkC ⟨3, t, s, x, es, m0, m1, m2⟩ = 0 := by unfold checkC; dsimp only; simp [qt, q2, qx, qe, qn, spareB]
                      rw [hv]
                      have K2 := Lib.hid k2
                      clear hv k2 k4 qt q2 qx qe qn
                      go_enter Try.func29, Try.ntmps29
                      go_wp2_with fail
                      (try rw [hW])
                      go_wp2_with (first
    | (go_at_call 45; refine (K2.out _).mono ?_; rintro e w1 ⟨rfl, rfl⟩)
    | (go_at_call 28; refine (K4.out _).mono ?_; rintro e w2 ⟨rfl, hb2⟩; have hc2 := (HM.out.below hb2 HM.out.lt).cell; have HB := Lib.hid (HB.out.trans (hb2.mono HB.out.size)); clear hb2))
                      go_ret
                      exact ⟨rfl, HB.out⟩
                    | false =>
                      have hme := meta_neql m0 m1 m2 true (by rw [qm]; rfl)
                      have qn : (decide (m0 = 0) && decide (m1 = 0) && decide (m2 = 0)) = false := by rw [Bool.and_assoc]; exact qm
                      have hv : checkC ⟨3, t, s, x, es, m0, m1, m2⟩ = 1 := by unfold checkC; dsimp only; simp [qt, q2, qx, qe, qn, spareB]
                      rw [hv]
                      have K2 := Lib.hid k2
                      clear hv k2 k4 qt q2 qx qe qn
                      go_enter Try.func29, Try.ntmps29
                      go_wp2_with fail
                      (try rw [hW])
                      go_wp2_with (first
    | (go_at_call 45; refine (K2.out _).mono ?_; rintro e w1 ⟨rfl, rfl⟩)
    | (go_at_call 28; refine (K4.out _).mono ?_; rintro e w2 ⟨rfl, hb2⟩; have hc2 := (HM.out.below hb2 HM.out.lt).cell; have HB := Lib.hid (HB.out.trans (hb2.mono HB.out.size)); clear hb2))
                      go_ret
                      exact ⟨rfl, HB.out⟩

end Go.Proofs.Ytfpalamoaflilaa
