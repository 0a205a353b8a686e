/- package vote: Newer, See, Ask, Stand, right, Put, one, walked. -/
import Derived.Test.YtbcbjibbeieaiaaVoteLaw
import Derived.Test.YtbcbjibbeieaiaaFrame
namespace Go.Proofs.Ytbcbjibbeieaiaa
open Go.RowKit
set_option maxHeartbeats 400000
set_option maxRecDepth 100000
set_option linter.unusedVariables false

/-- a ballot as a value -/
def balV (b : Int × Int) : Value := .agg #[.int .i64 b.1, .int .i64 b.2]

theorem newer_any (ea la eb lb : Int) (w : World) :
    Calls Try.prog 10 #[.int .i64 ea, .int .i64 la, .int .i64 eb, .int .i64 lb] w fun e w' => e = .returned (.bool (newerB ea la eb lb)) ∧ w = w' := by
  by_cases h1 : eb < ea
  · have hv : newerB ea la eb lb = true := by unfold newerB; rw [decide_eq_true_iff]; exact .inl h1
    have Hv := Lib.hid hv; clear hv
    go_enter Try.func10, Try.ntmps10
    go_wp2
    go_ret
    rw [Hv.out]
    exact ⟨rfl, rfl⟩
  · have h1' : decide (eb < ea) = false := by simpa using h1
    by_cases h2 : ea = eb
    · have hv : newerB ea la eb lb = decide (lb ≤ la) := by unfold newerB; rw [decide_eq_decide]; omega
      have Hv := Lib.hid hv; clear hv
      have h2' : (ea == eb) = true := by simpa using h2
      clear h1 h2
      go_enter Try.func10, Try.ntmps10
      go_wp2
      go_ret
      rw [Hv.out]
      exact ⟨rfl, rfl⟩
    · have hv : newerB ea la eb lb = false := by unfold newerB; rw [decide_eq_false_iff_not]; omega
      have Hv := Lib.hid hv; clear hv
      have h2' : (ea == eb) = false := by simpa using h2
      clear h1 h2
      go_enter Try.func10, Try.ntmps10
      go_wp2
      go_ret
      rw [Hv.out]
      exact ⟨rfl, rfl⟩

theorem see_any (t f term : Int) (w : World) :
    Calls Try.prog 19 #[.agg #[.int .i64 t, .int .i64 f], .int .i64 term] w fun e w' =>
      e = .returned (.agg #[.int .i64 (seeL (t, f) term).1, .int .i64 (seeL (t, f) term).2]) ∧ Below w.heap.size w w' := by
  by_cases h1 : t < term
  · have hv : seeL (t, f) term = (term, -1) := by unfold seeL; rw [if_pos h1]
    rw [hv]
    clear hv
    go_enter Try.func19, Try.ntmps19
    go_wp2
    exact bodyPost_ret (v := .agg #[.int .i64 term, .int .i64 (-1)]) (by simp [results, Try.results19, go_sem]) rfl ⟨rfl, by repeat (first | exact Below.refl _ _ | refine Below.alloc ?_ (by simp) _)⟩
  · have hv : seeL (t, f) term = (t, f) := by unfold seeL; rw [if_neg h1]
    rw [hv]
    have h1' : term ≤ t := by omega
    clear hv h1
    go_enter Try.func19, Try.ntmps19
    go_wp2
    exact bodyPost_ret (v := .agg #[.int .i64 t, .int .i64 f]) (by simp [results, Try.results19, go_sem]) rfl ⟨rfl, by repeat (first | exact Below.refl _ _ | refine Below.alloc ?_ (by simp) _)⟩

set_option maxHeartbeats 4000000 in
theorem ask_any (t f term who ea la eb lb : Int) (w : World) :
    Calls Try.prog 13 #[.agg #[.int .i64 t, .int .i64 f], .int .i64 term, .int .i64 who, .int .i64 ea, .int .i64 la, .int .i64 eb, .int .i64 lb] w fun e w' =>
      e = .returned (.tuple #[.agg #[.int .i64 (askL (t, f) term who ea la eb lb).1.1, .int .i64 (askL (t, f) term who ea la eb lb).1.2], .bool (askL (t, f) term who ea la eb lb).2]) ∧ Below w.heap.size w w' := by
  obtain ⟨s1, s2, hs⟩ : ∃ s1 s2, seeL (t, f) term = (s1, s2) := ⟨_, _, rfl⟩
  have hv : askL (t, f) term who ea la eb lb = if term ≠ s1 ∨ (s2 ≠ -1 ∧ s2 ≠ who) ∨ newerB ea la eb lb = false then ((s1, s2), false) else ((s1, who), true) := by
    unfold askL; rw [hs]
  have hse := see_any t f term ((w.alloc (.cells #[.int .i64 t, .int .i64 f] 32)).alloc (.cells #[.int .i64 0, .int .i64 0] 32))
  rw [hs] at hse
  have Hse := Lib.hid hse
  clear hse hs
  by_cases h1 : term = s1
  · have d1 : (term != s1) = false := by simpa using h1
    by_cases h2 : s2 = -1
    · have d2 : (s2 != -1) = false := by simpa using h2
      cases hn : newerB ea la eb lb with
      | true =>
        rw [if_neg (by rw [hn]; rintro (h | h | h); exact h h1; exact h.1 h2; cases h)] at hv
        have Hn := Lib.hid hn
        clear hn h1 h2
        have Hv := Lib.hid hv; clear hv
        go_enter Try.func13, Try.ntmps13
        go_wp2_with fail
        refine Hse.out.mono ?_
        rintro e w1 ⟨rfl, hb1⟩
        have hB := ((BlkIs.new w 32 #[.int .i64 t, .int .i64 f]).alloc (.cells #[.int .i64 0, .int .i64 0] 32)).below hb1 (by simp <;> omega)
        have hR := (BlkIs.new (w.alloc (.cells #[.int .i64 t, .int .i64 f] 32)) 32 #[.int .i64 0, .int .i64 0]).below hb1 (by simp <;> omega)
        have hbw : Below w.heap.size w w1 := (((Below.refl _ _).alloc (Nat.le_refl _) _).alloc (by simp) _).trans (hb1.mono (by simp <;> omega))
        rw [show (w.alloc (.cells #[.int .i64 t, .int .i64 f] 32)).heap.size = w.heap.size + 1 from by simp] at hR
        have hcb := hB.cell
        have hfb := hB.free
        have hcr := hR.cell
        have hfr := hR.free
        have hzw : w.heap.size + 1 < w1.heap.size := by have := hR.lt; omega
        have hcw1 : (w1.setCell ⟨w.heap.size, 0, none⟩ (.int .i64 s1)).cell? ⟨w.heap.size, 1, none⟩ = some (.int .i64 f) := (World.cell?_setCell_other w1 _ _ _ (by simp)).trans (hcb 1)
        have hcw := World.cell?_setCell_same _ ⟨w.heap.size, 1, none⟩ (.int .i64 who) (World.cell?_setCell_same _ ⟨w.heap.size, 1, none⟩ (.int .i64 s2) hcw1)
        clear hcw1
        clear hB hR hb1
        go_wp2_with (go_at_call 10; refine (newer_any _ _ _ _ _).mono ?_; rintro e w2 ⟨rfl, rfl⟩; rw [Hn.out])
        refine bodyPost_ret (v := .tuple #[.agg #[.int .i64 s1, .int .i64 who], .bool true]) ?_ rfl ?_
        · simp [results, Try.results13, go_sem, hcb, hfb, hcr, hfr]
        · rw [Hv.out]
          exact ⟨rfl, by repeat (first | exact hbw | refine Below.setCell ?_ (by simp) _)⟩
      | false =>
        rw [if_pos (.inr (.inr hn))] at hv
        have Hn := Lib.hid hn
        clear hn h1 h2
        have Hv := Lib.hid hv; clear hv
        go_enter Try.func13, Try.ntmps13
        go_wp2_with fail
        refine Hse.out.mono ?_
        rintro e w1 ⟨rfl, hb1⟩
        have hB := ((BlkIs.new w 32 #[.int .i64 t, .int .i64 f]).alloc (.cells #[.int .i64 0, .int .i64 0] 32)).below hb1 (by simp <;> omega)
        have hR := (BlkIs.new (w.alloc (.cells #[.int .i64 t, .int .i64 f] 32)) 32 #[.int .i64 0, .int .i64 0]).below hb1 (by simp <;> omega)
        have hbw : Below w.heap.size w w1 := (((Below.refl _ _).alloc (Nat.le_refl _) _).alloc (by simp) _).trans (hb1.mono (by simp <;> omega))
        rw [show (w.alloc (.cells #[.int .i64 t, .int .i64 f] 32)).heap.size = w.heap.size + 1 from by simp] at hR
        have hcb := hB.cell
        have hfb := hB.free
        have hcr := hR.cell
        have hfr := hR.free
        have hzw : w.heap.size + 1 < w1.heap.size := by have := hR.lt; omega
        skip
        clear hB hR hb1
        go_wp2_with (go_at_call 10; refine (newer_any _ _ _ _ _).mono ?_; rintro e w2 ⟨rfl, rfl⟩; rw [Hn.out])
        refine bodyPost_ret (v := .tuple #[.agg #[.int .i64 s1, .int .i64 s2], .bool false]) ?_ rfl ?_
        · simp [results, Try.results13, go_sem, hcb, hfb, hcr, hfr]
        · rw [Hv.out]
          exact ⟨rfl, by repeat (first | exact hbw | refine Below.setCell ?_ (by simp) _)⟩
    · have d2 : (s2 != -1) = true := by rw [bne_iff_ne]; exact h2
      by_cases h3 : s2 = who
      · have d3 : (s2 != who) = false := by simpa using h3
        cases hn : newerB ea la eb lb with
        | true =>
          rw [if_neg (by rw [hn]; rintro (h | h | h); exact h h1; exact h.2 h3; cases h)] at hv
          have Hn := Lib.hid hn
          clear hn h1 h2 h3
          have Hv := Lib.hid hv; clear hv
          go_enter Try.func13, Try.ntmps13
          go_wp2_with fail
          refine Hse.out.mono ?_
          rintro e w1 ⟨rfl, hb1⟩
          have hB := ((BlkIs.new w 32 #[.int .i64 t, .int .i64 f]).alloc (.cells #[.int .i64 0, .int .i64 0] 32)).below hb1 (by simp <;> omega)
          have hR := (BlkIs.new (w.alloc (.cells #[.int .i64 t, .int .i64 f] 32)) 32 #[.int .i64 0, .int .i64 0]).below hb1 (by simp <;> omega)
          have hbw : Below w.heap.size w w1 := (((Below.refl _ _).alloc (Nat.le_refl _) _).alloc (by simp) _).trans (hb1.mono (by simp <;> omega))
          rw [show (w.alloc (.cells #[.int .i64 t, .int .i64 f] 32)).heap.size = w.heap.size + 1 from by simp] at hR
          have hcb := hB.cell
          have hfb := hB.free
          have hcr := hR.cell
          have hfr := hR.free
          have hzw : w.heap.size + 1 < w1.heap.size := by have := hR.lt; omega
          have hcw1 : (w1.setCell ⟨w.heap.size, 0, none⟩ (.int .i64 s1)).cell? ⟨w.heap.size, 1, none⟩ = some (.int .i64 f) := (World.cell?_setCell_other w1 _ _ _ (by simp)).trans (hcb 1)
          have hcw := World.cell?_setCell_same _ ⟨w.heap.size, 1, none⟩ (.int .i64 who) (World.cell?_setCell_same _ ⟨w.heap.size, 1, none⟩ (.int .i64 s2) hcw1)
          clear hcw1
          clear hB hR hb1
          go_wp2_with (go_at_call 10; refine (newer_any _ _ _ _ _).mono ?_; rintro e w2 ⟨rfl, rfl⟩; rw [Hn.out])
          refine bodyPost_ret (v := .tuple #[.agg #[.int .i64 s1, .int .i64 who], .bool true]) ?_ rfl ?_
          · simp [results, Try.results13, go_sem, hcb, hfb, hcr, hfr]
          · rw [Hv.out]
            exact ⟨rfl, by repeat (first | exact hbw | refine Below.setCell ?_ (by simp) _)⟩
        | false =>
          rw [if_pos (.inr (.inr hn))] at hv
          have Hn := Lib.hid hn
          clear hn h1 h2 h3
          have Hv := Lib.hid hv; clear hv
          go_enter Try.func13, Try.ntmps13
          go_wp2_with fail
          refine Hse.out.mono ?_
          rintro e w1 ⟨rfl, hb1⟩
          have hB := ((BlkIs.new w 32 #[.int .i64 t, .int .i64 f]).alloc (.cells #[.int .i64 0, .int .i64 0] 32)).below hb1 (by simp <;> omega)
          have hR := (BlkIs.new (w.alloc (.cells #[.int .i64 t, .int .i64 f] 32)) 32 #[.int .i64 0, .int .i64 0]).below hb1 (by simp <;> omega)
          have hbw : Below w.heap.size w w1 := (((Below.refl _ _).alloc (Nat.le_refl _) _).alloc (by simp) _).trans (hb1.mono (by simp <;> omega))
          rw [show (w.alloc (.cells #[.int .i64 t, .int .i64 f] 32)).heap.size = w.heap.size + 1 from by simp] at hR
          have hcb := hB.cell
          have hfb := hB.free
          have hcr := hR.cell
          have hfr := hR.free
          have hzw : w.heap.size + 1 < w1.heap.size := by have := hR.lt; omega
          skip
          clear hB hR hb1
          go_wp2_with (go_at_call 10; refine (newer_any _ _ _ _ _).mono ?_; rintro e w2 ⟨rfl, rfl⟩; rw [Hn.out])
          refine bodyPost_ret (v := .tuple #[.agg #[.int .i64 s1, .int .i64 s2], .bool false]) ?_ rfl ?_
          · simp [results, Try.results13, go_sem, hcb, hfb, hcr, hfr]
          · rw [Hv.out]
            exact ⟨rfl, by repeat (first | exact hbw | refine Below.setCell ?_ (by simp) _)⟩
      · have d3 : (s2 != who) = true := by rw [bne_iff_ne]; exact h3
        rw [if_pos (.inr (.inl ⟨h2, h3⟩))] at hv
        clear h1 h2 h3
        have Hv := Lib.hid hv; clear hv
        go_enter Try.func13, Try.ntmps13
        go_wp2_with fail
        refine Hse.out.mono ?_
        rintro e w1 ⟨rfl, hb1⟩
        have hB := ((BlkIs.new w 32 #[.int .i64 t, .int .i64 f]).alloc (.cells #[.int .i64 0, .int .i64 0] 32)).below hb1 (by simp <;> omega)
        have hR := (BlkIs.new (w.alloc (.cells #[.int .i64 t, .int .i64 f] 32)) 32 #[.int .i64 0, .int .i64 0]).below hb1 (by simp <;> omega)
        have hbw : Below w.heap.size w w1 := (((Below.refl _ _).alloc (Nat.le_refl _) _).alloc (by simp) _).trans (hb1.mono (by simp <;> omega))
        rw [show (w.alloc (.cells #[.int .i64 t, .int .i64 f] 32)).heap.size = w.heap.size + 1 from by simp] at hR
        have hcb := hB.cell
        have hfb := hB.free
        have hcr := hR.cell
        have hfr := hR.free
        have hzw : w.heap.size + 1 < w1.heap.size := by have := hR.lt; omega
        skip
        clear hB hR hb1
        go_wp2_with (go_at_call 10; refine (newer_any _ _ _ _ _).mono ?_; rintro e w2 ⟨rfl, rfl⟩; skip)
        refine bodyPost_ret (v := .tuple #[.agg #[.int .i64 s1, .int .i64 s2], .bool false]) ?_ rfl ?_
        · simp [results, Try.results13, go_sem, hcb, hfb, hcr, hfr]
        · rw [Hv.out]
          exact ⟨rfl, by repeat (first | exact hbw | refine Below.setCell ?_ (by simp) _)⟩
  · have d1 : (term != s1) = true := by rw [bne_iff_ne]; exact h1
    rw [if_pos (.inl h1)] at hv
    clear h1
    have Hv := Lib.hid hv; clear hv
    go_enter Try.func13, Try.ntmps13
    go_wp2_with fail
    refine Hse.out.mono ?_
    rintro e w1 ⟨rfl, hb1⟩
    have hB := ((BlkIs.new w 32 #[.int .i64 t, .int .i64 f]).alloc (.cells #[.int .i64 0, .int .i64 0] 32)).below hb1 (by simp <;> omega)
    have hR := (BlkIs.new (w.alloc (.cells #[.int .i64 t, .int .i64 f] 32)) 32 #[.int .i64 0, .int .i64 0]).below hb1 (by simp <;> omega)
    have hbw : Below w.heap.size w w1 := (((Below.refl _ _).alloc (Nat.le_refl _) _).alloc (by simp) _).trans (hb1.mono (by simp <;> omega))
    rw [show (w.alloc (.cells #[.int .i64 t, .int .i64 f] 32)).heap.size = w.heap.size + 1 from by simp] at hR
    have hcb := hB.cell
    have hfb := hB.free
    have hcr := hR.cell
    have hfr := hR.free
    have hzw : w.heap.size + 1 < w1.heap.size := by have := hR.lt; omega
    skip
    clear hB hR hb1
    go_wp2_with (go_at_call 10; refine (newer_any _ _ _ _ _).mono ?_; rintro e w2 ⟨rfl, rfl⟩; skip)
    refine bodyPost_ret (v := .tuple #[.agg #[.int .i64 s1, .int .i64 s2], .bool false]) ?_ rfl ?_
    · simp [results, Try.results13, go_sem, hcb, hfb, hcr, hfr]
    · rw [Hv.out]
      exact ⟨rfl, by repeat (first | exact hbw | refine Below.setCell ?_ (by simp) _)⟩

theorem rightV_any (t f : Int) (w : World) :
    Calls Try.prog 26 #[.agg #[.int .i64 t, .int .i64 f]] w fun e w' => e = .returned (.bool (rightV (t, f))) ∧ Below w.heap.size w w' := by
  by_cases a : 0 ≤ t
  · by_cases b : t ≤ 2147483647
    · by_cases c : -1 ≤ f
      · have hv : rightV (t, f) = decide (f < 7) := by unfold rightV; rw [decide_eq_decide]; show (0 ≤ t ∧ t ≤ 2147483647 ∧ -1 ≤ f ∧ f < 7) ↔ _; omega
        have Hv := Lib.hid hv; clear hv
        go_enter Try.func26, Try.ntmps26
        go_wp2_with fail
        go_ret
        rw [Hv.out]
        exact ⟨rfl, by first | exact (Below.refl _ _).alloc (Nat.le_refl _) _ | exact below_drewN ((Below.refl _ _).alloc (Nat.le_refl _) _) _⟩
      · have hv : rightV (t, f) = false := by unfold rightV; rw [decide_eq_false_iff_not]; show ¬ (0 ≤ t ∧ t ≤ 2147483647 ∧ -1 ≤ f ∧ f < 7); omega
        have Hv := Lib.hid hv; clear hv
        have c' : f < -1 := by omega
        clear c
        go_enter Try.func26, Try.ntmps26
        go_wp2_with fail
        go_ret
        rw [Hv.out]
        exact ⟨rfl, by first | exact (Below.refl _ _).alloc (Nat.le_refl _) _ | exact below_drewN ((Below.refl _ _).alloc (Nat.le_refl _) _) _⟩
    · have hv : rightV (t, f) = false := by unfold rightV; rw [decide_eq_false_iff_not]; show ¬ (0 ≤ t ∧ t ≤ 2147483647 ∧ -1 ≤ f ∧ f < 7); omega
      have Hv := Lib.hid hv; clear hv
      have b' : 2147483647 < t := by omega
      clear b
      go_enter Try.func26, Try.ntmps26
      go_wp2_with fail
      go_ret
      rw [Hv.out]
      exact ⟨rfl, by first | exact (Below.refl _ _).alloc (Nat.le_refl _) _ | exact below_drewN ((Below.refl _ _).alloc (Nat.le_refl _) _) _⟩
  · have hv : rightV (t, f) = false := by unfold rightV; rw [decide_eq_false_iff_not]; show ¬ (0 ≤ t ∧ t ≤ 2147483647 ∧ -1 ≤ f ∧ f < 7); omega
    have Hv := Lib.hid hv; clear hv
    have a' : t < 0 := by omega
    clear a
    go_enter Try.func26, Try.ntmps26
    go_wp2_with fail
    go_ret
    rw [Hv.out]
    exact ⟨rfl, by first | exact (Below.refl _ _).alloc (Nat.le_refl _) _ | exact below_drewN ((Below.refl _ _).alloc (Nat.le_refl _) _) _⟩

theorem stand_any (t f who : Int) (w : World) (ht : -9223372036854775808 ≤ t ∧ t ≤ 9223372036854775807) :
    Calls Try.prog 21 #[.agg #[.int .i64 t, .int .i64 f], .int .i64 who] w fun e w' =>
      e = .returned (.agg #[.int .i64 (standL (t, f) who).1, .int .i64 (standL (t, f) who).2]) ∧ Below w.heap.size w w' := by
  obtain ⟨ht1, ht2⟩ := ht
  by_cases a : t = 2147483647
  · have hv : standL (t, f) who = (t, f) := by unfold standL; rw [if_pos a]
    have da : (t == 2147483647) = true := by simpa using a
    have Hv := Lib.hid hv; clear hv
    clear a
    go_enter Try.func21, Try.ntmps21
    go_wp2_with fail
    refine bodyPost_ret (v := .agg #[.int .i64 (t), .int .i64 f]) ?_ rfl ?_
    · simp [results, Try.results21, go_sem]
    · rw [Hv.out]
      exact ⟨rfl, by repeat (first | exact Below.refl _ _ | refine Below.alloc ?_ (by simp) _)⟩
  · have da : (t == 2147483647) = false := by simpa using a
    by_cases b : t = 9223372036854775807
    · have hv : standL (t, f) who = (t, who) := by unfold standL; rw [if_neg a, if_pos b]
      have db : (t == 9223372036854775807) = true := by simpa using b
      have Hv := Lib.hid hv; clear hv
      clear a b
      go_enter Try.func21, Try.ntmps21
      go_wp2_with fail
      refine bodyPost_ret (v := .agg #[.int .i64 (t), .int .i64 who]) ?_ rfl ?_
      · simp [results, Try.results21, go_sem]
      · rw [Hv.out]
        exact ⟨rfl, by repeat (first | exact Below.refl _ _ | refine Below.alloc ?_ (by simp) _)⟩
    · have hv : standL (t, f) who = (t + 1, who) := by unfold standL; rw [if_neg a, if_neg b]
      have db : (t == 9223372036854775807) = false := by simpa using b
      have ht3 : t ≤ 9223372036854775806 := by omega
      have Hv := Lib.hid hv; clear hv
      clear a b
      go_enter Try.func21, Try.ntmps21
      go_wp2_with fail
      refine bodyPost_ret (v := .agg #[.int .i64 (t + 1), .int .i64 who]) ?_ rfl ?_
      · simp [results, Try.results21, go_sem]
      · rw [Hv.out]
        exact ⟨rfl, by repeat (first | exact Below.refl _ _ | refine Below.alloc ?_ (by simp) _)⟩
end Go.Proofs.Ytbcbjibbeieaiaa
