/- chronicleref7: may a command be (kind 1)? (printed by mkrefck.py) -/
import Derived.Test.YtfpalamoaflilaaRefCk
namespace Go.Proofs.Ytfpalamoaflilaa
open Go.RowKit
set_option maxHeartbeats 2000000
set_option maxRecDepth 100000
set_option linter.unusedVariables false
attribute [local go_sem] run_store_flt

theorem refCheck_1 (t : Int) (s : ByteArray) (x : Int) (A : Option Addr) (n cap B : Nat) (es : List Ev) (m0 m1 m2 : Int) (w : World) (hr : SlR w B 4 A n (evVs es)) (hB : B ≤ w.heap.size) (hn : n ≤ 1000000000) (hf : ∀ e ∈ es, e.fits) (hs : s.size ≤ 9223372036854775807) :
    Calls Try.prog 29 #[.agg #[.int .i64 1, .int .i64 t, .string s, .int .i64 x, .slice A n cap, .int .i64 m0, .int .i64 m1, .int .i64 m2]] w fun e w' => e = .returned (.int .i64 (checkC ⟨1, t, s, x, es, m0, m1, m2⟩)) ∧ Below w.heap.size w w' := by
  have hl : es.length = n := by have := hr.len; rw [evVs_length] at this; omega
  obtain ⟨W, hW⟩ : ∃ W, w.alloc (.cells #[.int .i64 1, .int .i64 t, .string s, .int .i64 x, .slice A n cap, .int .i64 m0, .int .i64 m1, .int .i64 m2] 26) = W := ⟨_, rfl⟩
  have hM : BlkIs W w.heap.size 26 #[.int .i64 1, .int .i64 t, .string s, .int .i64 x, .slice A n cap, .int .i64 m0, .int .i64 m1, .int .i64 m2] := by rw [← hW]; exact BlkIs.new _ _ _
  have hb0 : Below w.heap.size w W := by rw [← hW]; exact (Below.refl _ _).alloc (Nat.le_refl _) _
  have hr0 := hr.below (hb0.mono hB)
  have hcW := hM.cell; have hlW := hM.lt
  have HM := Lib.hid hM; have Hr := Lib.hid hr0; have HB := Lib.hid hb0; have Hf := Lib.hid hf; have Hl := Lib.hid hl
  have k2 := fun w => refStream_any s w hs
  have k4 := fun w => refMeta7_any m0 m1 m2 w
  clear hM hr hr0 hb0 hf
  by_cases t0 : t < 0
  · have dt0 : decide (t < 0) = true := decide_eq_true t0
    have qt : withinB t = false := by unfold withinB; simp; omega
    clear t0
    have hv : checkC ⟨1, t, s, x, es, m0, m1, m2⟩ = 1 := by unfold checkC; dsimp only; simp [qt]
    rw [hv]
    clear hv k2 k4 qt
    go_enter Try.func29, Try.ntmps29
    go_wp2_with fail
    (try rw [hW])
    go_wp2_with (first
    | (go_at_call 45; refine (K2.out _).mono ?_; rintro e w1 ⟨rfl, rfl⟩)
    | (go_at_call 28; refine (K4.out _).mono ?_; rintro e w2 ⟨rfl, hb2⟩; have hc2 := (HM.out.below hb2 HM.out.lt).cell; have HB := Lib.hid (HB.out.trans (hb2.mono HB.out.size)); clear hb2))
    go_ret
    exact ⟨rfl, HB.out⟩
  · have dt0 : decide (t < 0) = false := decide_eq_false t0
    by_cases t1 : 1099511627776 < t
    · have dt1 : decide (1099511627776 < t) = true := decide_eq_true t1
      have qt : withinB t = false := by unfold withinB; simp; omega
      clear t0 t1
      have hv : checkC ⟨1, t, s, x, es, m0, m1, m2⟩ = 1 := by unfold checkC; dsimp only; simp [qt]
      rw [hv]
      clear hv k2 k4 qt
      go_enter Try.func29, Try.ntmps29
      go_wp2_with fail
      (try rw [hW])
      go_wp2_with (first
    | (go_at_call 45; refine (K2.out _).mono ?_; rintro e w1 ⟨rfl, rfl⟩)
    | (go_at_call 28; refine (K4.out _).mono ?_; rintro e w2 ⟨rfl, hb2⟩; have hc2 := (HM.out.below hb2 HM.out.lt).cell; have HB := Lib.hid (HB.out.trans (hb2.mono HB.out.size)); clear hb2))
      go_ret
      exact ⟨rfl, HB.out⟩
    · have dt1 : decide (1099511627776 < t) = false := decide_eq_false t1
      have qt : withinB t = true := by unfold withinB; simp; omega
      clear t0 t1
      cases q2 : nameB s with
      | false =>
        simp only [q2] at k2
        have hv : checkC ⟨1, t, s, x, es, m0, m1, m2⟩ = 1 := by unfold checkC; dsimp only; simp [qt, q2]
        rw [hv]
        have K2 := Lib.hid k2
        clear hv k2 k4 qt q2
        go_enter Try.func29, Try.ntmps29
        go_wp2_with fail
        (try rw [hW])
        go_wp2_with (first
    | (go_at_call 45; refine (K2.out _).mono ?_; rintro e w1 ⟨rfl, rfl⟩)
    | (go_at_call 28; refine (K4.out _).mono ?_; rintro e w2 ⟨rfl, hb2⟩; have hc2 := (HM.out.below hb2 HM.out.lt).cell; have HB := Lib.hid (HB.out.trans (hb2.mono HB.out.size)); clear hb2))
        go_ret
        exact ⟨rfl, HB.out⟩
      | true =>
        simp only [q2] at k2
        by_cases n0 : n = 0
        · have qe : evsErr es = 1 := by unfold evsErr; rw [if_pos (by omega)]
          have d0 : ((n : Int) == 0) = true := by rw [beq_iff_eq]; omega
          clear n0
          have hv : checkC ⟨1, t, s, x, es, m0, m1, m2⟩ = 1 := by unfold checkC; dsimp only; simp [qt, q2, qe]
          rw [hv]
          have K2 := Lib.hid k2
          clear hv k2 k4 qt q2 qe
          go_enter Try.func29, Try.ntmps29
          go_wp2_with fail
          (try rw [hW])
          go_wp2_with (first
    | (go_at_call 45; refine (K2.out _).mono ?_; rintro e w1 ⟨rfl, rfl⟩)
    | (go_at_call 28; refine (K4.out _).mono ?_; rintro e w2 ⟨rfl, hb2⟩; have hc2 := (HM.out.below hb2 HM.out.lt).cell; have HB := Lib.hid (HB.out.trans (hb2.mono HB.out.size)); clear hb2))
          go_ret
          exact ⟨rfl, HB.out⟩
        · have d0 : ((n : Int) == 0) = false := by rw [beq_eq_false_iff_ne]; omega
          by_cases n8 : 8 < n
          · have qe : evsErr es = 2 := by unfold evsErr; rw [if_neg (by omega), if_pos (by omega)]
            have d1 : decide ((8 : Int) < (n : Int)) = true := decide_eq_true (by omega)
            have hv : checkC ⟨1, t, s, x, es, m0, m1, m2⟩ = 2 := by unfold checkC; dsimp only; simp [qt, q2, qe]
            rw [hv]
            have K2 := Lib.hid k2
            clear hv k2 k4 qt q2 qe
            go_enter Try.func29, Try.ntmps29
            go_wp2_with fail
            (try rw [hW])
            go_wp2_with (first
    | (go_at_call 45; refine (K2.out _).mono ?_; rintro e w1 ⟨rfl, rfl⟩)
    | (go_at_call 28; refine (K4.out _).mono ?_; rintro e w2 ⟨rfl, hb2⟩; have hc2 := (HM.out.below hb2 HM.out.lt).cell; have HB := Lib.hid (HB.out.trans (hb2.mono HB.out.size)); clear hb2))
            go_ret
            exact ⟨rfl, HB.out⟩
          · have d1 : decide ((8 : Int) < (n : Int)) = false := decide_eq_false (by omega)
            have qe : evsErr es = if es.all validE = true then 0 else 1 := by unfold evsErr; rw [if_neg (by omega), if_neg (by omega)]
            obtain ⟨V, hV⟩ : ∃ V, checkC ⟨1, t, s, x, es, m0, m1, m2⟩ = V := ⟨_, rfl⟩
            have hno : es.all validE = false → V = 1 := fun h => by rw [← hV]; unfold checkC; dsimp only; rw [h] at qe; simp [qt, q2, qe]
            have hyes : es.all validE = true → expectsB x = true → (decide (m0 = 0) && decide (m1 = 0) && decide (m2 = 0)) = true → V = 0 := fun h h1 h2 => by rw [← hV]; unfold checkC; dsimp only; rw [h] at qe; simp [qt, q2, qe, h1, h2, spareB]
            have hx : es.all validE = true → expectsB x = false → V = 1 := fun h h1 => by rw [← hV]; unfold checkC; dsimp only; rw [h] at qe; simp [qt, q2, qe, h1]
            have hm : es.all validE = true → (decide (m0 = 0) && decide (m1 = 0) && decide (m2 = 0)) = false → V = 1 := fun h h2 => by rw [← hV]; unfold checkC; dsimp only; rw [h] at qe; simp [qt, q2, qe, h2, spareB]
            rw [hV]
            have Hno := Lib.hid hno; have Hyes := Lib.hid hyes; have Hx := Lib.hid hx; have Hm := Lib.hid hm; have K2 := Lib.hid k2
            have hBW : B ≤ W.heap.size := Nat.le_trans hB HB.out.size
            clear qe hV hno hyes hx hm k2 k4 qt q2 n8
            go_enter Try.func29, Try.ntmps29
            go_wp2_with fail
            (try rw [hW])
            go_wp2_with (go_at_call 45; refine (K2.out _).mono ?_; rintro e w1 ⟨rfl, rfl⟩)
            clear hcW hlW hl
            go_loopw [3] (fun i wr => ∃ m : Nat, m ≤ n ∧ i = .int .i64 m ∧ (es.take m).all validE = true ∧ Below W.heap.size W wr) (fun i _ => n - (intOf i).toNat)
            case atStart => exact ⟨0, Nat.zero_le _, rfl, rfl, Below.refl _ _⟩
            case round =>
              obtain ⟨m, hm, rfl, hall, hb⟩ := hrel
              have hcr := (HM.out.below hb HM.out.lt).cell; have hlr := (HM.out.below hb HM.out.lt).lt
              have Hall := Lib.hid hall; have Hb := Lib.hid hb
              clear hall hb
              by_cases hlm : m < n
              · obtain ⟨ad, ⟨id, ty, da, va⟩, rfl, hadB, hpk, hat⟩ := Hr.out.ev hlm
                have hat2 := hat.below Hb.out (by rw [add_block]; exact Nat.lt_of_lt_of_le hadB hBW)
                have hfe := Hf.out _ (List.mem_of_getElem? hpk)
                obtain ⟨c0, c1, c2, c3⟩ := hat2
                have hsz := Hb.out.size
                have hbl : (ad.add (m * 4)).block < wr.heap.size := by rw [add_block]; omega
                have hval := fun w => refValid7_any id ty da va w hfe.t1 hfe.d1
                have hi1 : (m : Int) < n := by omega
                cases hvv : validE ⟨id, ty, da, va⟩ with
                | true =>
                  simp only [hvv] at hval
                  have Hval := Lib.hid hval; have Hvv := Lib.hid hvv; have Hpk := Lib.hid hpk
                  clear hval hvv hpk hfe hat
                  go_wp2_with (go_at_call 20; refine (Hval.out _).mono ?_; rintro e w2 ⟨rfl, hb2⟩)
                  go_roundw
                  case rel => exact ⟨m + 1, by omega, by go_num, by
                    have hk := (List.getElem?_eq_some_iff.mp Hpk.out).1
                    rw [List.take_succ_eq_append_getElem hk, List.all_append, Hall.out, (List.getElem?_eq_some_iff.mp Hpk.out).2]
                    simp [Hvv.out], Hb.out.trans (hb2.mono Hb.out.size)⟩
                  case measure => simp [intOf]; omega
                | false =>
                  simp only [hvv] at hval
                  have hno : es.all validE = false := by
                    rw [List.all_eq_false]
                    exact ⟨_, List.mem_of_getElem? hpk, by rw [hvv]; simp⟩
                  obtain rfl := Hno.out hno
                  have Hval := Lib.hid hval
                  clear hval hvv hpk hfe hat hno
                  go_wp2_with (go_at_call 20; refine (Hval.out _).mono ?_; rintro e w2 ⟨rfl, hb2⟩)
                  go_ret
                  exact ⟨rfl, HB.out.trans ((Hb.out.trans (hb2.mono Hb.out.size)).mono HB.out.size)⟩
              · obtain rfl : m = n := by omega
                have ha : es.all validE = true := by have := Hall.out; rwa [List.take_of_length_le (by have := Hl.out; omega)] at this
                have dmm : decide (m < m) = false := by simp
                by_cases x1 : x = -1
                · have nx1 : (x != -1) = false := by rw [bne_eq_false_iff_eq]; exact x1
                  have qx : expectsB x = true := by unfold expectsB; simp [x1]
                  clear x1
                  cases qm : (decide (m0 = 0) && (decide (m1 = 0) && decide (m2 = 0))) with
                  | true =>
                    have hme := meta_neql m0 m1 m2 false (by rw [qm]; rfl)
                    have qn : (decide (m0 = 0) && decide (m1 = 0) && decide (m2 = 0)) = true := by rw [Bool.and_assoc]; exact qm
                    obtain rfl : V = 0 := Hyes.out ha qx qn
                    clear ha qx qm qn
                    go_wp2_with fail
                    go_ret
                    exact ⟨rfl, HB.out.trans (Hb.out.mono HB.out.size)⟩
                  | false =>
                    have hme := meta_neql m0 m1 m2 true (by rw [qm]; rfl)
                    have qn : (decide (m0 = 0) && decide (m1 = 0) && decide (m2 = 0)) = false := by rw [Bool.and_assoc]; exact qm
                    obtain rfl : V = 1 := Hm.out ha qn
                    clear ha qx qm qn
                    go_wp2_with fail
                    go_ret
                    exact ⟨rfl, HB.out.trans (Hb.out.mono HB.out.size)⟩
                · have nx1 : (x != -1) = true := by rw [bne_iff_ne]; exact x1
                  by_cases x2 : x = -2
                  · have nx2 : (x != -2) = false := by rw [bne_eq_false_iff_eq]; exact x2
                    have qx : expectsB x = true := by unfold expectsB; simp [x2]
                    clear x1 x2
                    cases qm : (decide (m0 = 0) && (decide (m1 = 0) && decide (m2 = 0))) with
                    | true =>
                      have hme := meta_neql m0 m1 m2 false (by rw [qm]; rfl)
                      have qn : (decide (m0 = 0) && decide (m1 = 0) && decide (m2 = 0)) = true := by rw [Bool.and_assoc]; exact qm
                      obtain rfl : V = 0 := Hyes.out ha qx qn
                      clear ha qx qm qn
                      go_wp2_with fail
                      go_ret
                      exact ⟨rfl, HB.out.trans (Hb.out.mono HB.out.size)⟩
                    | false =>
                      have hme := meta_neql m0 m1 m2 true (by rw [qm]; rfl)
                      have qn : (decide (m0 = 0) && decide (m1 = 0) && decide (m2 = 0)) = false := by rw [Bool.and_assoc]; exact qm
                      obtain rfl : V = 1 := Hm.out ha qn
                      clear ha qx qm qn
                      go_wp2_with fail
                      go_ret
                      exact ⟨rfl, HB.out.trans (Hb.out.mono HB.out.size)⟩
                  · have nx2 : (x != -2) = true := by rw [bne_iff_ne]; exact x2
                    by_cases x4 : x = -4
                    · have nx4 : (x != -4) = false := by rw [bne_eq_false_iff_eq]; exact x4
                      have qx : expectsB x = true := by unfold expectsB; simp [x4]
                      clear x1 x2 x4
                      cases qm : (decide (m0 = 0) && (decide (m1 = 0) && decide (m2 = 0))) with
                      | true =>
                        have hme := meta_neql m0 m1 m2 false (by rw [qm]; rfl)
                        have qn : (decide (m0 = 0) && decide (m1 = 0) && decide (m2 = 0)) = true := by rw [Bool.and_assoc]; exact qm
                        obtain rfl : V = 0 := Hyes.out ha qx qn
                        clear ha qx qm qn
                        go_wp2_with fail
                        go_ret
                        exact ⟨rfl, HB.out.trans (Hb.out.mono HB.out.size)⟩
                      | false =>
                        have hme := meta_neql m0 m1 m2 true (by rw [qm]; rfl)
                        have qn : (decide (m0 = 0) && decide (m1 = 0) && decide (m2 = 0)) = false := by rw [Bool.and_assoc]; exact qm
                        obtain rfl : V = 1 := Hm.out ha qn
                        clear ha qx qm qn
                        go_wp2_with fail
                        go_ret
                        exact ⟨rfl, HB.out.trans (Hb.out.mono HB.out.size)⟩
                    · have nx4 : (x != -4) = true := by rw [bne_iff_ne]; exact x4
                      by_cases x5 : x < 0
                      · have nx5 : decide (x < 0) = true := decide_eq_true x5
                        have qx : expectsB x = false := by unfold expectsB withinB; simp; omega
                        clear x1 x2 x4 x5
                        obtain rfl : V = 1 := Hx.out ha qx
                        clear ha qx
                        go_wp2_with fail
                        go_ret
                        exact ⟨rfl, HB.out.trans (Hb.out.mono HB.out.size)⟩
                      · have nx5 : decide (x < 0) = false := decide_eq_false x5
                        by_cases x6 : 1099511627776 < x
                        · have nx6 : decide (1099511627776 < x) = true := decide_eq_true x6
                          have qx : expectsB x = false := by unfold expectsB withinB; simp; omega
                          clear x1 x2 x4 x5 x6
                          obtain rfl : V = 1 := Hx.out ha qx
                          clear ha qx
                          go_wp2_with fail
                          go_ret
                          exact ⟨rfl, HB.out.trans (Hb.out.mono HB.out.size)⟩
                        · have nx6 : decide (1099511627776 < x) = false := decide_eq_false x6
                          have qx : expectsB x = true := by unfold expectsB withinB; simp; omega
                          clear x1 x2 x4 x5 x6
                          cases qm : (decide (m0 = 0) && (decide (m1 = 0) && decide (m2 = 0))) with
                          | true =>
                            have hme := meta_neql m0 m1 m2 false (by rw [qm]; rfl)
                            have qn : (decide (m0 = 0) && decide (m1 = 0) && decide (m2 = 0)) = true := by rw [Bool.and_assoc]; exact qm
                            obtain rfl : V = 0 := Hyes.out ha qx qn
                            clear ha qx qm qn
                            go_wp2_with fail
                            go_ret
                            exact ⟨rfl, HB.out.trans (Hb.out.mono HB.out.size)⟩
                          | false =>
                            have hme := meta_neql m0 m1 m2 true (by rw [qm]; rfl)
                            have qn : (decide (m0 = 0) && decide (m1 = 0) && decide (m2 = 0)) = false := by rw [Bool.and_assoc]; exact qm
                            obtain rfl : V = 1 := Hm.out ha qn
                            clear ha qx qm qn
                            go_wp2_with fail
                            go_ret
                            exact ⟨rfl, HB.out.trans (Hb.out.mono HB.out.size)⟩
end Go.Proofs.Ytfpalamoaflilaa
