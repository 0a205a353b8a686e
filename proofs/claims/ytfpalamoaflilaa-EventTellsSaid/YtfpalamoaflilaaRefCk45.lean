/- chronicleref7: may a command be (kinds 4, 5, others)? (printed by mkrefck.py) -/
import Derived.Test.YtfpalamoaflilaaRefCk
namespace Go.Proofs.Ytfpalamoaflilaa
open Go.RowKit
set_option maxHeartbeats 2000000
set_option maxRecDepth 100000
set_option linter.unusedVariables false
attribute [local go_sem] run_store_flt

theorem refCheck_4 (t : Int) (s : ByteArray) (x : Int) (A : Option Addr) (n cap B : Nat) (es : List Ev) (m0 m1 m2 : Int) (w : World) (hr : SlR w B 4 A n (evVs es)) (hB : B ≤ w.heap.size) (hn : n ≤ 1000000000) (hf : ∀ e ∈ es, e.fits) (hs : s.size ≤ 9223372036854775807) :
    Calls Try.prog 29 #[.agg #[.int .i64 4, .int .i64 t, .string s, .int .i64 x, .slice A n cap, .int .i64 m0, .int .i64 m1, .int .i64 m2]] w fun e w' => e = .returned (.int .i64 (checkC ⟨4, t, s, x, es, m0, m1, m2⟩)) ∧ Below w.heap.size w w' := by
  have hl : es.length = n := by have := hr.len; rw [evVs_length] at this; omega
  obtain ⟨W, hW⟩ : ∃ W, w.alloc (.cells #[.int .i64 4, .int .i64 t, .string s, .int .i64 x, .slice A n cap, .int .i64 m0, .int .i64 m1, .int .i64 m2] 26) = W := ⟨_, rfl⟩
  have hM : BlkIs W w.heap.size 26 #[.int .i64 4, .int .i64 t, .string s, .int .i64 x, .slice A n cap, .int .i64 m0, .int .i64 m1, .int .i64 m2] := by rw [← hW]; exact BlkIs.new _ _ _
  have hb0 : Below w.heap.size w W := by rw [← hW]; exact (Below.refl _ _).alloc (Nat.le_refl _) _
  have hr0 := hr.below (hb0.mono hB)
  have hcW := hM.cell; have hlW := hM.lt
  have HM := Lib.hid hM; have Hr := Lib.hid hr0; have HB := Lib.hid hb0; have Hf := Lib.hid hf; have Hl := Lib.hid hl
  have k2 := fun w => refStream_any s w hs
  have k4 := fun w => refMeta7_any m0 m1 m2 w
  clear hM hr hr0 hb0 hf
  by_cases t0 : t < 0
  · have dt0 : decide (t < 0) = true := decide_eq_true t0
    have qt : withinB t = false := by unfold withinB; simp; omega
    clear t0
    have hv : checkC ⟨4, t, s, x, es, m0, m1, m2⟩ = 1 := by unfold checkC; dsimp only; simp [qt, spareB]
    rw [hv]
    clear hv k2 k4 qt
    go_enter Try.func29, Try.ntmps29
    go_wp2_with fail
    (try rw [hW])
    go_wp2_with (first
    | (go_at_call 45; refine (K2.out _).mono ?_; rintro e w1 ⟨rfl, rfl⟩)
    | (go_at_call 28; refine (K4.out _).mono ?_; rintro e w2 ⟨rfl, hb2⟩; have hc2 := (HM.out.below hb2 HM.out.lt).cell; have HB := Lib.hid (HB.out.trans (hb2.mono HB.out.size)); clear hb2))
    go_ret
    exact ⟨rfl, HB.out⟩
  · have dt0 : decide (t < 0) = false := decide_eq_false t0
    by_cases t1 : 1099511627776 < t
    · have dt1 : decide (1099511627776 < t) = true := decide_eq_true t1
      have qt : withinB t = false := by unfold withinB; simp; omega
      clear t0 t1
      have hv : checkC ⟨4, t, s, x, es, m0, m1, m2⟩ = 1 := by unfold checkC; dsimp only; simp [qt, spareB]
      rw [hv]
      clear hv k2 k4 qt
      go_enter Try.func29, Try.ntmps29
      go_wp2_with fail
      (try rw [hW])
      go_wp2_with (first
    | (go_at_call 45; refine (K2.out _).mono ?_; rintro e w1 ⟨rfl, rfl⟩)
    | (go_at_call 28; refine (K4.out _).mono ?_; rintro e w2 ⟨rfl, hb2⟩; have hc2 := (HM.out.below hb2 HM.out.lt).cell; have HB := Lib.hid (HB.out.trans (hb2.mono HB.out.size)); clear hb2))
      go_ret
      exact ⟨rfl, HB.out⟩
    · have dt1 : decide (1099511627776 < t) = false := decide_eq_false t1
      have qt : withinB t = true := by unfold withinB; simp; omega
      clear t0 t1
      by_cases n0 : 0 < n
      · have dn : decide ((0 : Int) < (n : Int)) = true := decide_eq_true (by omega)
        have qe : decide (0 < es.length) = true := decide_eq_true (by omega)
        have hv : checkC ⟨4, t, s, x, es, m0, m1, m2⟩ = 1 := by unfold checkC; dsimp only; simp [qt, qe, spareB]
        rw [hv]
        clear hv k2 k4 qt qe
        go_enter Try.func29, Try.ntmps29
        go_wp2_with fail
        (try rw [hW])
        go_wp2_with (first
    | (go_at_call 45; refine (K2.out _).mono ?_; rintro e w1 ⟨rfl, rfl⟩)
    | (go_at_call 28; refine (K4.out _).mono ?_; rintro e w2 ⟨rfl, hb2⟩; have hc2 := (HM.out.below hb2 HM.out.lt).cell; have HB := Lib.hid (HB.out.trans (hb2.mono HB.out.size)); clear hb2))
        go_ret
        exact ⟨rfl, HB.out⟩
      · have dn : decide ((0 : Int) < (n : Int)) = false := decide_eq_false (by omega)
        have qe : decide (0 < es.length) = false := decide_eq_false (by omega)
        cases qm : (decide (m0 = 0) && (decide (m1 = 0) && decide (m2 = 0))) with
        | true =>
          have hme := meta_neql m0 m1 m2 false (by rw [qm]; rfl)
          have qn : (decide (m0 = 0) && decide (m1 = 0) && decide (m2 = 0)) = true := by rw [Bool.and_assoc]; exact qm
          by_cases x0 : x = 0
          · have nx0 : (x != 0) = false := by rw [bne_eq_false_iff_eq]; exact x0
            have qx : decide (x = 0) = true := decide_eq_true x0
            clear x0
            by_cases s0 : s.size = 0
            · have qs : s = ByteArray.empty := by rw [str_size0 s0]; rfl
              have dz2 : s.toList = [] := by rw [ByteArray.toList_eq, str_size0 s0]
              clear s0
              have hv : checkC ⟨4, t, s, x, es, m0, m1, m2⟩ = 0 := by unfold checkC; dsimp only; simp [qt, qe, qn, qx, qs, spareB]
              rw [hv]
              clear hv k2 k4 qt qe qn qx qs
              go_enter Try.func29, Try.ntmps29
              go_wp2_with fail
              (try rw [hW])
              go_wp2_with (first
    | (go_at_call 45; refine (K2.out _).mono ?_; rintro e w1 ⟨rfl, rfl⟩)
    | (go_at_call 28; refine (K4.out _).mono ?_; rintro e w2 ⟨rfl, hb2⟩; have hc2 := (HM.out.below hb2 HM.out.lt).cell; have HB := Lib.hid (HB.out.trans (hb2.mono HB.out.size)); clear hb2))
              go_ret
              exact ⟨rfl, HB.out⟩
            · have qs : ¬ (s = ByteArray.empty) := fun h => s0 (by rw [h]; rfl)
              have dz := str_ne0 s0; have dz2 : ¬ (s.toList = []) := of_decide_eq_false dz; have dz3 : s.toList.isEmpty = false := by simpa using dz2
              clear s0
              have hv : checkC ⟨4, t, s, x, es, m0, m1, m2⟩ = 1 := by unfold checkC; dsimp only; simp [qt, qe, qn, qx, qs, spareB]
              rw [hv]
              clear hv k2 k4 qt qe qn qx qs
              go_enter Try.func29, Try.ntmps29
              go_wp2_with fail
              (try rw [hW])
              go_wp2_with (first
    | (go_at_call 45; refine (K2.out _).mono ?_; rintro e w1 ⟨rfl, rfl⟩)
    | (go_at_call 28; refine (K4.out _).mono ?_; rintro e w2 ⟨rfl, hb2⟩; have hc2 := (HM.out.below hb2 HM.out.lt).cell; have HB := Lib.hid (HB.out.trans (hb2.mono HB.out.size)); clear hb2))
              go_ret
              exact ⟨rfl, HB.out⟩
          · have nx0 : (x != 0) = true := by rw [bne_iff_ne]; exact x0
            have qx : decide (x = 0) = false := decide_eq_false x0
            clear x0
            have hv : checkC ⟨4, t, s, x, es, m0, m1, m2⟩ = 1 := by unfold checkC; dsimp only; simp [qt, qe, qn, qx, spareB]
            rw [hv]
            clear hv k2 k4 qt qe qn qx
            go_enter Try.func29, Try.ntmps29
            go_wp2_with fail
            (try rw [hW])
            go_wp2_with (first
    | (go_at_call 45; refine (K2.out _).mono ?_; rintro e w1 ⟨rfl, rfl⟩)
    | (go_at_call 28; refine (K4.out _).mono ?_; rintro e w2 ⟨rfl, hb2⟩; have hc2 := (HM.out.below hb2 HM.out.lt).cell; have HB := Lib.hid (HB.out.trans (hb2.mono HB.out.size)); clear hb2))
            go_ret
            exact ⟨rfl, HB.out⟩
        | false =>
          have hme := meta_neql m0 m1 m2 true (by rw [qm]; rfl)
          have qn : (decide (m0 = 0) && decide (m1 = 0) && decide (m2 = 0)) = false := by rw [Bool.and_assoc]; exact qm
          have hv : checkC ⟨4, t, s, x, es, m0, m1, m2⟩ = 1 := by unfold checkC; dsimp only; simp [qt, qe, qn, spareB]
          rw [hv]
          clear hv k2 k4 qt qe qn
          go_enter Try.func29, Try.ntmps29
          go_wp2_with fail
          (try rw [hW])
          go_wp2_with (first
    | (go_at_call 45; refine (K2.out _).mono ?_; rintro e w1 ⟨rfl, rfl⟩)
    | (go_at_call 28; refine (K4.out _).mono ?_; rintro e w2 ⟨rfl, hb2⟩; have hc2 := (HM.out.below hb2 HM.out.lt).cell; have HB := Lib.hid (HB.out.trans (hb2.mono HB.out.size)); clear hb2))
          go_ret
          exact ⟨rfl, HB.out⟩

theorem refCheck_5 (t : Int) (s : ByteArray) (x : Int) (A : Option Addr) (n cap B : Nat) (es : List Ev) (m0 m1 m2 : Int) (w : World) (hr : SlR w B 4 A n (evVs es)) (hB : B ≤ w.heap.size) (hn : n ≤ 1000000000) (hf : ∀ e ∈ es, e.fits) (hs : s.size ≤ 9223372036854775807) :
    Calls Try.prog 29 #[.agg #[.int .i64 5, .int .i64 t, .string s, .int .i64 x, .slice A n cap, .int .i64 m0, .int .i64 m1, .int .i64 m2]] w fun e w' => e = .returned (.int .i64 (checkC ⟨5, t, s, x, es, m0, m1, m2⟩)) ∧ Below w.heap.size w w' := by
  have hl : es.length = n := by have := hr.len; rw [evVs_length] at this; omega
  obtain ⟨W, hW⟩ : ∃ W, w.alloc (.cells #[.int .i64 5, .int .i64 t, .string s, .int .i64 x, .slice A n cap, .int .i64 m0, .int .i64 m1, .int .i64 m2] 26) = W := ⟨_, rfl⟩
  have hM : BlkIs W w.heap.size 26 #[.int .i64 5, .int .i64 t, .string s, .int .i64 x, .slice A n cap, .int .i64 m0, .int .i64 m1, .int .i64 m2] := by rw [← hW]; exact BlkIs.new _ _ _
  have hb0 : Below w.heap.size w W := by rw [← hW]; exact (Below.refl _ _).alloc (Nat.le_refl _) _
  have hr0 := hr.below (hb0.mono hB)
  have hcW := hM.cell; have hlW := hM.lt
  have HM := Lib.hid hM; have Hr := Lib.hid hr0; have HB := Lib.hid hb0; have Hf := Lib.hid hf; have Hl := Lib.hid hl
  have k2 := fun w => refStream_any s w hs
  have k4 := fun w => refMeta7_any m0 m1 m2 w
  clear hM hr hr0 hb0 hf
  by_cases t0 : t < 0
  · have dt0 : decide (t < 0) = true := decide_eq_true t0
    have qt : withinB t = false := by unfold withinB; simp; omega
    clear t0
    have hv : checkC ⟨5, t, s, x, es, m0, m1, m2⟩ = 1 := by unfold checkC; dsimp only; simp [qt, spareB]
    rw [hv]
    clear hv k2 k4 qt
    go_enter Try.func29, Try.ntmps29
    go_wp2_with fail
    (try rw [hW])
    go_wp2_with (first
    | (go_at_call 45; refine (K2.out _).mono ?_; rintro e w1 ⟨rfl, rfl⟩)
    | (go_at_call 28; refine (K4.out _).mono ?_; rintro e w2 ⟨rfl, hb2⟩; have hc2 := (HM.out.below hb2 HM.out.lt).cell; have HB := Lib.hid (HB.out.trans (hb2.mono HB.out.size)); clear hb2))
    go_ret
    exact ⟨rfl, HB.out⟩
  · have dt0 : decide (t < 0) = false := decide_eq_false t0
    by_cases t1 : 1099511627776 < t
    · have dt1 : decide (1099511627776 < t) = true := decide_eq_true t1
      have qt : withinB t = false := by unfold withinB; simp; omega
      clear t0 t1
      have hv : checkC ⟨5, t, s, x, es, m0, m1, m2⟩ = 1 := by unfold checkC; dsimp only; simp [qt, spareB]
      rw [hv]
      clear hv k2 k4 qt
      go_enter Try.func29, Try.ntmps29
      go_wp2_with fail
      (try rw [hW])
      go_wp2_with (first
    | (go_at_call 45; refine (K2.out _).mono ?_; rintro e w1 ⟨rfl, rfl⟩)
    | (go_at_call 28; refine (K4.out _).mono ?_; rintro e w2 ⟨rfl, hb2⟩; have hc2 := (HM.out.below hb2 HM.out.lt).cell; have HB := Lib.hid (HB.out.trans (hb2.mono HB.out.size)); clear hb2))
      go_ret
      exact ⟨rfl, HB.out⟩
    · have dt1 : decide (1099511627776 < t) = false := decide_eq_false t1
      have qt : withinB t = true := by unfold withinB; simp; omega
      clear t0 t1
      by_cases n0 : 0 < n
      · have dn : decide ((0 : Int) < (n : Int)) = true := decide_eq_true (by omega)
        have qe : decide (0 < es.length) = true := decide_eq_true (by omega)
        have hv : checkC ⟨5, t, s, x, es, m0, m1, m2⟩ = 1 := by unfold checkC; dsimp only; simp [qt, qe, spareB]
        rw [hv]
        clear hv k2 k4 qt qe
        go_enter Try.func29, Try.ntmps29
        go_wp2_with fail
        (try rw [hW])
        go_wp2_with (first
    | (go_at_call 45; refine (K2.out _).mono ?_; rintro e w1 ⟨rfl, rfl⟩)
    | (go_at_call 28; refine (K4.out _).mono ?_; rintro e w2 ⟨rfl, hb2⟩; have hc2 := (HM.out.below hb2 HM.out.lt).cell; have HB := Lib.hid (HB.out.trans (hb2.mono HB.out.size)); clear hb2))
        go_ret
        exact ⟨rfl, HB.out⟩
      · have dn : decide ((0 : Int) < (n : Int)) = false := decide_eq_false (by omega)
        have qe : decide (0 < es.length) = false := decide_eq_false (by omega)
        cases qm : (decide (m0 = 0) && (decide (m1 = 0) && decide (m2 = 0))) with
        | true =>
          have hme := meta_neql m0 m1 m2 false (by rw [qm]; rfl)
          have qn : (decide (m0 = 0) && decide (m1 = 0) && decide (m2 = 0)) = true := by rw [Bool.and_assoc]; exact qm
          by_cases x0 : x = 0
          · have nx0 : (x != 0) = false := by rw [bne_eq_false_iff_eq]; exact x0
            have qx : decide (x = 0) = true := decide_eq_true x0
            clear x0
            by_cases s0 : s.size = 0
            · have qs : s = ByteArray.empty := by rw [str_size0 s0]; rfl
              have dz2 : s.toList = [] := by rw [ByteArray.toList_eq, str_size0 s0]
              clear s0
              have hv : checkC ⟨5, t, s, x, es, m0, m1, m2⟩ = 0 := by unfold checkC; dsimp only; simp [qt, qe, qn, qx, qs, spareB]
              rw [hv]
              clear hv k2 k4 qt qe qn qx qs
              go_enter Try.func29, Try.ntmps29
              go_wp2_with fail
              (try rw [hW])
              go_wp2_with (first
    | (go_at_call 45; refine (K2.out _).mono ?_; rintro e w1 ⟨rfl, rfl⟩)
    | (go_at_call 28; refine (K4.out _).mono ?_; rintro e w2 ⟨rfl, hb2⟩; have hc2 := (HM.out.below hb2 HM.out.lt).cell; have HB := Lib.hid (HB.out.trans (hb2.mono HB.out.size)); clear hb2))
              go_ret
              exact ⟨rfl, HB.out⟩
            · have qs : ¬ (s = ByteArray.empty) := fun h => s0 (by rw [h]; rfl)
              have dz := str_ne0 s0; have dz2 : ¬ (s.toList = []) := of_decide_eq_false dz; have dz3 : s.toList.isEmpty = false := by simpa using dz2
              clear s0
              have hv : checkC ⟨5, t, s, x, es, m0, m1, m2⟩ = 1 := by unfold checkC; dsimp only; simp [qt, qe, qn, qx, qs, spareB]
              rw [hv]
              clear hv k2 k4 qt qe qn qx qs
              go_enter Try.func29, Try.ntmps29
              go_wp2_with fail
              (try rw [hW])
              go_wp2_with (first
    | (go_at_call 45; refine (K2.out _).mono ?_; rintro e w1 ⟨rfl, rfl⟩)
    | (go_at_call 28; refine (K4.out _).mono ?_; rintro e w2 ⟨rfl, hb2⟩; have hc2 := (HM.out.below hb2 HM.out.lt).cell; have HB := Lib.hid (HB.out.trans (hb2.mono HB.out.size)); clear hb2))
              go_ret
              exact ⟨rfl, HB.out⟩
          · have nx0 : (x != 0) = true := by rw [bne_iff_ne]; exact x0
            have qx : decide (x = 0) = false := decide_eq_false x0
            clear x0
            have hv : checkC ⟨5, t, s, x, es, m0, m1, m2⟩ = 1 := by unfold checkC; dsimp only; simp [qt, qe, qn, qx, spareB]
            rw [hv]
            clear hv k2 k4 qt qe qn qx
            go_enter Try.func29, Try.ntmps29
            go_wp2_with fail
            (try rw [hW])
            go_wp2_with (first
    | (go_at_call 45; refine (K2.out _).mono ?_; rintro e w1 ⟨rfl, rfl⟩)
    | (go_at_call 28; refine (K4.out _).mono ?_; rintro e w2 ⟨rfl, hb2⟩; have hc2 := (HM.out.below hb2 HM.out.lt).cell; have HB := Lib.hid (HB.out.trans (hb2.mono HB.out.size)); clear hb2))
            go_ret
            exact ⟨rfl, HB.out⟩
        | false =>
          have hme := meta_neql m0 m1 m2 true (by rw [qm]; rfl)
          have qn : (decide (m0 = 0) && decide (m1 = 0) && decide (m2 = 0)) = false := by rw [Bool.and_assoc]; exact qm
          have hv : checkC ⟨5, t, s, x, es, m0, m1, m2⟩ = 1 := by unfold checkC; dsimp only; simp [qt, qe, qn, spareB]
          rw [hv]
          clear hv k2 k4 qt qe qn
          go_enter Try.func29, Try.ntmps29
          go_wp2_with fail
          (try rw [hW])
          go_wp2_with (first
    | (go_at_call 45; refine (K2.out _).mono ?_; rintro e w1 ⟨rfl, rfl⟩)
    | (go_at_call 28; refine (K4.out _).mono ?_; rintro e w2 ⟨rfl, hb2⟩; have hc2 := (HM.out.below hb2 HM.out.lt).cell; have HB := Lib.hid (HB.out.trans (hb2.mono HB.out.size)); clear hb2))
          go_ret
          exact ⟨rfl, HB.out⟩

theorem refCheck_out (k t : Int) (s : ByteArray) (x : Int) (A : Option Addr) (n cap B : Nat) (es : List Ev) (m0 m1 m2 : Int) (w : World) (hr : SlR w B 4 A n (evVs es)) (hB : B ≤ w.heap.size) (hn : n ≤ 1000000000) (hf : ∀ e ∈ es, e.fits) (hs : s.size ≤ 9223372036854775807) (hout : k < 1 ∨ 5 < k) :
    Calls Try.prog 29 #[.agg #[.int .i64 k, .int .i64 t, .string s, .int .i64 x, .slice A n cap, .int .i64 m0, .int .i64 m1, .int .i64 m2]] w fun e w' => e = .returned (.int .i64 (checkC ⟨k, t, s, x, es, m0, m1, m2⟩)) ∧ Below w.heap.size w w' := by
  have hl : es.length = n := by have := hr.len; rw [evVs_length] at this; omega
  obtain ⟨W, hW⟩ : ∃ W, w.alloc (.cells #[.int .i64 k, .int .i64 t, .string s, .int .i64 x, .slice A n cap, .int .i64 m0, .int .i64 m1, .int .i64 m2] 26) = W := ⟨_, rfl⟩
  have hM : BlkIs W w.heap.size 26 #[.int .i64 k, .int .i64 t, .string s, .int .i64 x, .slice A n cap, .int .i64 m0, .int .i64 m1, .int .i64 m2] := by rw [← hW]; exact BlkIs.new _ _ _
  have hb0 : Below w.heap.size w W := by rw [← hW]; exact (Below.refl _ _).alloc (Nat.le_refl _) _
  have hr0 := hr.below (hb0.mono hB)
  have hcW := hM.cell; have hlW := hM.lt
  have HM := Lib.hid hM; have Hr := Lib.hid hr0; have HB := Lib.hid hb0; have Hf := Lib.hid hf; have Hl := Lib.hid hl
  have k2 := fun w => refStream_any s w hs
  have k4 := fun w => refMeta7_any m0 m1 m2 w
  clear hM hr hr0 hb0 hf
  by_cases hk : k < 1
  · have dk : decide (k < 1) = true := decide_eq_true hk
    have hv : checkC ⟨k, t, s, x, es, m0, m1, m2⟩ = 1 := by unfold checkC; dsimp only; simp [hk]
    rw [hv]
    clear hv k2 k4
    go_enter Try.func29, Try.ntmps29
    go_wp2_with fail
    (try rw [hW])
    go_wp2_with (first
    | (go_at_call 45; refine (K2.out _).mono ?_; rintro e w1 ⟨rfl, rfl⟩)
    | (go_at_call 28; refine (K4.out _).mono ?_; rintro e w2 ⟨rfl, hb2⟩; have hc2 := (HM.out.below hb2 HM.out.lt).cell; have HB := Lib.hid (HB.out.trans (hb2.mono HB.out.size)); clear hb2))
    go_ret
    exact ⟨rfl, HB.out⟩
  · have dk : decide (k < 1) = false := decide_eq_false hk
    have hk5 : 5 < k := by omega
    have dk5 : decide (5 < k) = true := decide_eq_true hk5
    have hv : checkC ⟨k, t, s, x, es, m0, m1, m2⟩ = 1 := by unfold checkC; dsimp only; simp [hk5]
    rw [hv]
    clear hv k2 k4
    go_enter Try.func29, Try.ntmps29
    go_wp2_with fail
    (try rw [hW])
    go_wp2_with (first
    | (go_at_call 45; refine (K2.out _).mono ?_; rintro e w1 ⟨rfl, rfl⟩)
    | (go_at_call 28; refine (K4.out _).mono ?_; rintro e w2 ⟨rfl, hb2⟩; have hc2 := (HM.out.below hb2 HM.out.lt).cell; have HB := Lib.hid (HB.out.trans (hb2.mono HB.out.size)); clear hb2))
    go_ret
    exact ⟨rfl, HB.out⟩

end Go.Proofs.Ytfpalamoaflilaa
