/- chapter 7: metadata, what is expected, spare parts. -/
import Derived.Test.YtfpalamoaflilaaEvValid
namespace Go.Proofs.Ytfpalamoaflilaa
open Go.RowKit
set_option maxHeartbeats 2000000
set_option maxRecDepth 100000
set_option linter.unusedVariables false

theorem meta_any (a b d : Int) (w : World) : Calls Try.prog 27 #[.agg #[.int .i64 a, .int .i64 b, .int .i64 d]] w fun e w' => e = .returned (.bool (metaB a b d)) ∧ Below w.heap.size w w' := by
  have hb := (Below.refl w.heap.size w).alloc (Nat.le_refl _) (.cells #[.int .i64 a, .int .i64 b, .int .i64 d] 24)
  have Hb := Lib.hid hb; clear hb
  have hv : metaB a b d = (withinB a && withinB b && withinB d) := rfl
  rw [hv]
  clear hv
  have h0 := fun w => within_any a w
  have h1 := fun w => within_any b w
  have h2 := fun w => within_any d w
  cases q0 : withinB a with
  | false =>
    rw [q0] at h0
    have H0 := Lib.hid h0; clear h0 h1 h2
    go_enter Try.func27, Try.ntmps27
    go_wp2_with fail
    refine (H0.out _).mono ?_
    rintro e w1 ⟨rfl, rfl⟩
    go_wp2_with fail
    go_ret
    exact ⟨rfl, Hb.out⟩
  | true =>
    rw [q0] at h0
    have H0 := Lib.hid h0; clear h0
    cases q1 : withinB b with
    | false =>
      rw [q1] at h1
      have H1 := Lib.hid h1; clear h1 h2
      go_enter Try.func27, Try.ntmps27
      go_wp2_with fail
      refine (H0.out _).mono ?_
      rintro e w1 ⟨rfl, rfl⟩
      go_wp2_with fail
      refine (H1.out _).mono ?_
      rintro e w1 ⟨rfl, rfl⟩
      go_wp2_with fail
      go_ret
      exact ⟨rfl, Hb.out⟩
    | true =>
      rw [q1] at h1
      have H1 := Lib.hid h1; clear h1
      cases q2 : withinB d with
      | false =>
        rw [q2] at h2
        have H2 := Lib.hid h2; clear h2
        go_enter Try.func27, Try.ntmps27
        go_wp2_with fail
        refine (H0.out _).mono ?_
        rintro e w1 ⟨rfl, rfl⟩
        go_wp2_with fail
        refine (H1.out _).mono ?_
        rintro e w1 ⟨rfl, rfl⟩
        go_wp2_with fail
        refine (H2.out _).mono ?_
        rintro e w1 ⟨rfl, rfl⟩
        go_wp2_with fail
        go_ret
        exact ⟨rfl, Hb.out⟩
      | true =>
        rw [q2] at h2
        have H2 := Lib.hid h2; clear h2
        go_enter Try.func27, Try.ntmps27
        go_wp2_with fail
        refine (H0.out _).mono ?_
        rintro e w1 ⟨rfl, rfl⟩
        go_wp2_with fail
        refine (H1.out _).mono ?_
        rintro e w1 ⟨rfl, rfl⟩
        go_wp2_with fail
        refine (H2.out _).mono ?_
        rintro e w1 ⟨rfl, rfl⟩
        go_wp2_with fail
        go_ret
        exact ⟨rfl, Hb.out⟩

theorem expects_any (n : Int) (w : World) : Calls Try.prog 37 #[.int .i64 n] w fun e w' => e = .returned (.bool (expectsB n)) ∧ w = w' := by
  have hw := fun w => within_any n w
  have hv : expectsB n = (withinB n || decide (n = -1) || decide (n = -2) || decide (n = -4)) := rfl
  cases q : withinB n with
  | true =>
    rw [q] at hw hv
    rw [show expectsB n = true from by rw [hv]; simp]
    have Hw := Lib.hid hw; clear hw hv q
    go_enter Try.func37, Try.ntmps37
    go_wp2_with fail
    refine (Hw.out _).mono ?_
    rintro e w1 ⟨rfl, rfl⟩
    go_wp2_with fail
    go_ret
    exact ⟨rfl, rfl⟩
  | false =>
    rw [q] at hw hv
    have Hw := Lib.hid hw; clear hw q
    by_cases h1 : n = -1
    · subst h1
      rw [show expectsB (-1) = true from by rw [hv]; rfl]
      clear hv
      go_enter Try.func37, Try.ntmps37
      go_wp2_with fail
      refine (Hw.out _).mono ?_
      rintro e w1 ⟨rfl, rfl⟩
      go_wp2_with fail
      go_ret
      exact ⟨rfl, rfl⟩
    · have d1 : (n == -1) = false := by rw [beq_eq_false_iff_ne]; exact h1
      by_cases h2 : n = -2
      · subst h2
        rw [show expectsB (-2) = true from by rw [hv]; rfl]
        clear hv h1
        go_enter Try.func37, Try.ntmps37
        go_wp2_with fail
        refine (Hw.out _).mono ?_
        rintro e w1 ⟨rfl, rfl⟩
        go_wp2_with fail
        go_ret
        exact ⟨rfl, rfl⟩
      · have d2 : (n == -2) = false := by rw [beq_eq_false_iff_ne]; exact h2
        by_cases h3 : n = -4
        · subst h3
          rw [show expectsB (-4) = true from by rw [hv]; rfl]
          clear hv h1 h2
          go_enter Try.func37, Try.ntmps37
          go_wp2_with fail
          refine (Hw.out _).mono ?_
          rintro e w1 ⟨rfl, rfl⟩
          go_wp2_with fail
          go_ret
          exact ⟨rfl, rfl⟩
        · have d3 : (n == -4) = false := by rw [beq_eq_false_iff_ne]; exact h3
          rw [show expectsB n = false from by rw [hv]; simp [h1, h2, h3]]
          clear hv h1 h2 h3
          go_enter Try.func37, Try.ntmps37
          go_wp2_with fail
          refine (Hw.out _).mono ?_
          rintro e w1 ⟨rfl, rfl⟩
          go_wp2_with fail
          go_ret
          exact ⟨rfl, rfl⟩

theorem str_size0 {s : ByteArray} (h : s.size = 0) : s = ⟨#[]⟩ := str_mk (l := []) (List.eq_nil_of_length_eq_zero (by rw [← size_list]; exact h))
theorem str_ne0 {s : ByteArray} (h : s.size ≠ 0) : decide (s.toList = []) = false := by
  rw [decide_eq_false_iff_not, ByteArray.toList_eq]
  intro e
  exact h (by rw [size_list, e]; rfl)

theorem spare_any (k t : Int) (s : ByteArray) (x : Int) (A : Option Addr) (n cap : Nat) (es : List Ev) (m0 m1 m2 : Int) (w : World) (hl : es.length = n) :
    Calls Try.prog 38 #[.agg #[.int .i64 k, .int .i64 t, .string s, .int .i64 x, .slice A n cap, .int .i64 m0, .int .i64 m1, .int .i64 m2]] w fun e w' => e = .returned (.bool (spareB ⟨k, t, s, x, es, m0, m1, m2⟩)) ∧ Below w.heap.size w w' := by
  have hb := (Below.refl w.heap.size w).alloc (Nat.le_refl _) (.cells #[.int .i64 k, .int .i64 t, .string s, .int .i64 x, .slice A n cap, .int .i64 m0, .int .i64 m1, .int .i64 m2] 26)
  have Hb := Lib.hid hb; clear hb
  by_cases k1 : k = 1
  · subst k1
    by_cases g0 : m0 = 0
    · subst g0
      by_cases g1 : m1 = 0
      · subst g1
        by_cases g2 : m2 = 0
        · subst g2
          have hv : spareB ⟨1, t, s, x, es, 0, 0, 0⟩ = false := by unfold spareB; (simp) <;> rfl
          rw [hv]
          clear hv
          go_enter Try.func38, Try.ntmps38
          go_wp2_with fail
          go_ret
          exact ⟨rfl, Hb.out⟩
        · have hs : spareB ⟨1, t, s, x, es, 0, 0, m2⟩ = true := by unfold spareB; simp [g2]
          rw [hs]
          clear hs
          go_enter Try.func38, Try.ntmps38
          go_wp2_with fail
          go_ret
          exact ⟨rfl, Hb.out⟩
      · have hs : spareB ⟨1, t, s, x, es, 0, m1, m2⟩ = true := by unfold spareB; simp [g1]
        rw [hs]
        clear hs
        go_enter Try.func38, Try.ntmps38
        go_wp2_with fail
        go_ret
        exact ⟨rfl, Hb.out⟩
    · have hs : spareB ⟨1, t, s, x, es, m0, m1, m2⟩ = true := by unfold spareB; simp [g0]
      rw [hs]
      clear hs
      go_enter Try.func38, Try.ntmps38
      go_wp2_with fail
      go_ret
      exact ⟨rfl, Hb.out⟩
  · have e1 : (k == 1) = false := by rw [beq_eq_false_iff_ne]; exact k1
    have f1 : (k != 1) = true := by rw [bne_iff_ne]; exact k1
    by_cases k2 : k = 2
    · subst k2
      by_cases hx : x = 0
      · subst hx
        by_cases hn : 0 < n
        · have dn : decide ((0 : Int) < (n : Int)) = true := decide_eq_true (by omega)
          have hn' : 0 < es.length := by omega
          have hs : spareB ⟨2, t, s, 0, es, m0, m1, m2⟩ = true := by unfold spareB; simp [hn']
          rw [hs]
          clear hs hn'
          go_enter Try.func38, Try.ntmps38
          go_wp2_with fail
          go_ret
          exact ⟨rfl, Hb.out⟩
        · have dn : decide ((0 : Int) < (n : Int)) = false := decide_eq_false (by omega)
          have hn' : es.length = 0 := by omega
          have hv : spareB ⟨2, t, s, 0, es, m0, m1, m2⟩ = false := by unfold spareB; (simp [hn']) <;> rfl
          rw [hv]
          clear hv hn'
          go_enter Try.func38, Try.ntmps38
          go_wp2_with fail
          go_ret
          exact ⟨rfl, Hb.out⟩
      · have dx : (x != 0) = true := by rw [bne_iff_ne]; exact hx
        have hs : spareB ⟨2, t, s, x, es, m0, m1, m2⟩ = true := by unfold spareB; simp [hx]
        rw [hs]
        clear hs
        go_enter Try.func38, Try.ntmps38
        go_wp2_with fail
        go_ret
        exact ⟨rfl, Hb.out⟩
    · have e2 : (k == 2) = false := by rw [beq_eq_false_iff_ne]; exact k2
      have f2 : (k != 2) = true := by rw [bne_iff_ne]; exact k2
      by_cases k3 : k = 3
      · subst k3
        by_cases hn : 0 < n
        · have dn : decide ((0 : Int) < (n : Int)) = true := decide_eq_true (by omega)
          have hn' : 0 < es.length := by omega
          have hs : spareB ⟨3, t, s, x, es, m0, m1, m2⟩ = true := by unfold spareB; simp [hn']
          rw [hs]
          clear hs hn'
          go_enter Try.func38, Try.ntmps38
          go_wp2_with fail
          go_ret
          exact ⟨rfl, Hb.out⟩
        · have dn : decide ((0 : Int) < (n : Int)) = false := decide_eq_false (by omega)
          have hn' : es.length = 0 := by omega
          by_cases g0 : m0 = 0
          · subst g0
            by_cases g1 : m1 = 0
            · subst g1
              by_cases g2 : m2 = 0
              · subst g2
                have hv : spareB ⟨3, t, s, x, es, 0, 0, 0⟩ = false := by unfold spareB; (simp [hn']) <;> rfl
                rw [hv]
                clear hv hn'
                go_enter Try.func38, Try.ntmps38
                go_wp2_with fail
                go_ret
                exact ⟨rfl, Hb.out⟩
              · have hs : spareB ⟨3, t, s, x, es, 0, 0, m2⟩ = true := by unfold spareB; simp [g2]
                rw [hs]
                clear hs
                go_enter Try.func38, Try.ntmps38
                go_wp2_with fail
                go_ret
                exact ⟨rfl, Hb.out⟩
            · have hs : spareB ⟨3, t, s, x, es, 0, m1, m2⟩ = true := by unfold spareB; simp [g1]
              rw [hs]
              clear hs
              go_enter Try.func38, Try.ntmps38
              go_wp2_with fail
              go_ret
              exact ⟨rfl, Hb.out⟩
          · have hs : spareB ⟨3, t, s, x, es, m0, m1, m2⟩ = true := by unfold spareB; simp [g0]
            rw [hs]
            clear hs
            go_enter Try.func38, Try.ntmps38
            go_wp2_with fail
            go_ret
            exact ⟨rfl, Hb.out⟩
      · have e3 : (k == 3) = false := by rw [beq_eq_false_iff_ne]; exact k3
        have kd : decide (k = 1) = false ∧ decide (k = 2) = false ∧ decide (k = 3) = false := ⟨decide_eq_false k1, decide_eq_false k2, decide_eq_false k3⟩
        clear k1 k2 k3
        by_cases hz : s.size = 0
        · obtain rfl := str_size0 hz
          clear hz
          by_cases hx : x = 0
          · subst hx
            by_cases hn : 0 < n
            · have dn : decide ((0 : Int) < (n : Int)) = true := decide_eq_true (by omega)
              have hn' : 0 < es.length := by omega
              have hs : spareB ⟨k, t, ⟨#[]⟩, 0, es, m0, m1, m2⟩ = true := by unfold spareB; simp [hn', kd]
              rw [hs]
              clear hs hn'
              go_enter Try.func38, Try.ntmps38
              go_wp2_with fail
              go_ret
              exact ⟨rfl, Hb.out⟩
            · have dn : decide ((0 : Int) < (n : Int)) = false := decide_eq_false (by omega)
              have hn' : es.length = 0 := by omega
              by_cases g0 : m0 = 0
              · subst g0
                by_cases g1 : m1 = 0
                · subst g1
                  by_cases g2 : m2 = 0
                  · subst g2
                    have hv : spareB ⟨k, t, ⟨#[]⟩, 0, es, 0, 0, 0⟩ = false := by unfold spareB; (simp [kd, hn']) <;> rfl
                    rw [hv]
                    clear hv kd hn'
                    go_enter Try.func38, Try.ntmps38
                    go_wp2_with fail
                    go_ret
                    exact ⟨rfl, Hb.out⟩
                  · have hs : spareB ⟨k, t, ⟨#[]⟩, 0, es, 0, 0, m2⟩ = true := by unfold spareB; simp [g2, kd]
                    rw [hs]
                    clear hs
                    go_enter Try.func38, Try.ntmps38
                    go_wp2_with fail
                    go_ret
                    exact ⟨rfl, Hb.out⟩
                · have hs : spareB ⟨k, t, ⟨#[]⟩, 0, es, 0, m1, m2⟩ = true := by unfold spareB; simp [g1, kd]
                  rw [hs]
                  clear hs
                  go_enter Try.func38, Try.ntmps38
                  go_wp2_with fail
                  go_ret
                  exact ⟨rfl, Hb.out⟩
              · have hs : spareB ⟨k, t, ⟨#[]⟩, 0, es, m0, m1, m2⟩ = true := by unfold spareB; simp [g0, kd]
                rw [hs]
                clear hs
                go_enter Try.func38, Try.ntmps38
                go_wp2_with fail
                go_ret
                exact ⟨rfl, Hb.out⟩
          · have dx : (x != 0) = true := by rw [bne_iff_ne]; exact hx
            have hs : spareB ⟨k, t, ⟨#[]⟩, x, es, m0, m1, m2⟩ = true := by unfold spareB; simp [hx, kd]
            rw [hs]
            clear hs
            go_enter Try.func38, Try.ntmps38
            go_wp2_with fail
            go_ret
            exact ⟨rfl, Hb.out⟩
        · have dz := str_ne0 hz; have dz2 : ¬ (s.toList = []) := of_decide_eq_false dz
          have hs : spareB ⟨k, t, s, x, es, m0, m1, m2⟩ = true := by unfold spareB; simp [hz, kd]
          rw [hs]
          clear hs hz
          go_enter Try.func38, Try.ntmps38
          go_wp2_with fail
          go_ret
          exact ⟨rfl, Hb.out⟩
end Go.Proofs.Ytfpalamoaflilaa
