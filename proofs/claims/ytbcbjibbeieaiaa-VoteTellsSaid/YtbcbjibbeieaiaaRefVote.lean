/- chronicleref20: Newer, See, Ask, Stand, small, PutBallot, walked. -/
import Derived.Test.YtbcbjibbeieaiaaVoteLaw
import Derived.Test.YtbcbjibbeieaiaaRefOut
import Derived.Test.YtbcbjibbeieaiaaRefFrame
namespace Go.Proofs.Ytbcbjibbeieaiaa
open Go.RowKit
set_option maxHeartbeats 1000000
set_option maxRecDepth 100000
set_option linter.unusedVariables false

theorem refNewer_any (ea la eb lb : Int) (w : World) :
    Calls Try.prog 23 #[.int .i64 ea, .int .i64 la, .int .i64 eb, .int .i64 lb] w fun e w' => e = .returned (.bool (newerB ea la eb lb)) ∧ w = w' := by
  by_cases h1 : eb < ea
  · have hv : newerB ea la eb lb = true := by unfold newerB; rw [decide_eq_true_iff]; exact .inl h1
    have Hv := Lib.hid hv; clear hv
    go_enter Try.func23, Try.ntmps23
    go_wp2
    go_ret
    rw [Hv.out]
    exact ⟨rfl, rfl⟩
  · have h1' : decide (eb < ea) = false := by simpa using h1
    by_cases h2 : ea = eb
    · have hv : newerB ea la eb lb = decide (lb ≤ la) := by unfold newerB; rw [decide_eq_decide]; omega
      have Hv := Lib.hid hv; clear hv
      have h2' : (ea == eb) = true := by simpa using h2
      clear h1 h2
      go_enter Try.func23, Try.ntmps23
      go_wp2
      go_ret
      rw [Hv.out]
      exact ⟨rfl, rfl⟩
    · have hv : newerB ea la eb lb = false := by unfold newerB; rw [decide_eq_false_iff_not]; omega
      have Hv := Lib.hid hv; clear hv
      have h2' : (ea == eb) = false := by simpa using h2
      clear h1 h2
      go_enter Try.func23, Try.ntmps23
      go_wp2
      go_ret
      rw [Hv.out]
      exact ⟨rfl, rfl⟩

theorem refSee_any (t f term : Int) (w : World) :
    Calls Try.prog 20 #[.agg #[.int .i64 t, .int .i64 f], .int .i64 term] w fun e w' =>
      e = .returned (.agg #[.int .i64 (seeL (t, f) term).1, .int .i64 (seeL (t, f) term).2]) ∧ Below w.heap.size w w' := by
  by_cases h1 : t < term
  · have hv : seeL (t, f) term = (term, -1) := by unfold seeL; rw [if_pos h1]
    rw [hv]
    clear hv
    go_enter Try.func20, Try.ntmps20
    go_wp2
    exact bodyPost_ret (v := .agg #[.int .i64 term, .int .i64 (-1)]) (by simp [results, Try.results20, go_sem]) rfl ⟨rfl, by repeat (first | exact Below.refl _ _ | refine Below.alloc ?_ (by simp) _)⟩
  · have hv : seeL (t, f) term = (t, f) := by unfold seeL; rw [if_neg h1]
    rw [hv]
    have h1' : term ≤ t := by omega
    clear hv h1
    go_enter Try.func20, Try.ntmps20
    go_wp2
    exact bodyPost_ret (v := .agg #[.int .i64 t, .int .i64 f]) (by simp [results, Try.results20, go_sem]) rfl ⟨rfl, by repeat (first | exact Below.refl _ _ | refine Below.alloc ?_ (by simp) _)⟩

set_option maxHeartbeats 4000000 in
theorem refAsk_any (t f term who ea la eb lb : Int) (w : World) :
    Calls Try.prog 14 #[.agg #[.int .i64 t, .int .i64 f], .int .i64 term, .int .i64 who, .int .i64 ea, .int .i64 la, .int .i64 eb, .int .i64 lb] w fun e w' =>
      e = .returned (.tuple #[.agg #[.int .i64 (askL (t, f) term who ea la eb lb).1.1, .int .i64 (askL (t, f) term who ea la eb lb).1.2], .bool (askL (t, f) term who ea la eb lb).2]) ∧ Below w.heap.size w w' := by
  obtain ⟨s1, s2, hs⟩ : ∃ s1 s2, seeL (t, f) term = (s1, s2) := ⟨_, _, rfl⟩
  have hv : askL (t, f) term who ea la eb lb = if term ≠ s1 ∨ (s2 ≠ -1 ∧ s2 ≠ who) ∨ newerB ea la eb lb = false then ((s1, s2), false) else ((s1, who), true) := by
    unfold askL; rw [hs]
  have hse := refSee_any t f term ((w.alloc (.cells #[.int .i64 t, .int .i64 f] 39)).alloc (.cells #[.int .i64 0, .int .i64 0] 39))
  rw [hs] at hse
  have Hse := Lib.hid hse
  clear hse hs
  by_cases h1 : term = s1
  · have d1 : (term != s1) = false := by simpa using h1
    by_cases h2 : s2 = -1
    · have d2 : (s2 != -1) = false := by simpa using h2
      cases hn : newerB ea la eb lb with
      | true =>
        rw [if_neg (by rw [hn]; rintro (h | h | h); exact h h1; exact h.1 h2; cases h)] at hv
        have Hn := Lib.hid hn
        clear hn h1 h2
        have Hv := Lib.hid hv; clear hv
        go_enter Try.func14, Try.ntmps14
        go_wp2_with fail
        refine Hse.out.mono ?_
        rintro e w1 ⟨rfl, hb1⟩
        have hB := ((BlkIs.new w 39 #[.int .i64 t, .int .i64 f]).alloc (.cells #[.int .i64 0, .int .i64 0] 39)).below hb1 (by simp <;> omega)
        have hR := (BlkIs.new (w.alloc (.cells #[.int .i64 t, .int .i64 f] 39)) 39 #[.int .i64 0, .int .i64 0]).below hb1 (by simp <;> omega)
        have hbw : Below w.heap.size w w1 := (((Below.refl _ _).alloc (Nat.le_refl _) _).alloc (by simp) _).trans (hb1.mono (by simp <;> omega))
        rw [show (w.alloc (.cells #[.int .i64 t, .int .i64 f] 39)).heap.size = w.heap.size + 1 from by simp] at hR
        have hcb := hB.cell
        have hfb := hB.free
        have hcr := hR.cell
        have hfr := hR.free
        have hzw : w.heap.size + 1 < w1.heap.size := by have := hR.lt; omega
        have hcw1 : (w1.setCell ⟨w.heap.size, 0, none⟩ (.int .i64 s1)).cell? ⟨w.heap.size, 1, none⟩ = some (.int .i64 f) := (World.cell?_setCell_other w1 _ _ _ (by simp)).trans (hcb 1)
        have hcw := World.cell?_setCell_same _ ⟨w.heap.size, 1, none⟩ (.int .i64 who) (World.cell?_setCell_same _ ⟨w.heap.size, 1, none⟩ (.int .i64 s2) hcw1)
        clear hcw1
        clear hB hR hb1
        go_wp2_with (go_at_call 23; refine (refNewer_any _ _ _ _ _).mono ?_; rintro e w2 ⟨rfl, rfl⟩; rw [Hn.out])
        refine bodyPost_ret (v := .tuple #[.agg #[.int .i64 s1, .int .i64 who], .bool true]) ?_ rfl ?_
        · simp [results, Try.results14, go_sem, hcb, hfb, hcr, hfr]
        · rw [Hv.out]
          exact ⟨rfl, by repeat (first | exact hbw | refine Below.setCell ?_ (by simp) _)⟩
      | false =>
        rw [if_pos (.inr (.inr hn))] at hv
        have Hn := Lib.hid hn
        clear hn h1 h2
        have Hv := Lib.hid hv; clear hv
        go_enter Try.func14, Try.ntmps14
        go_wp2_with fail
        refine Hse.out.mono ?_
        rintro e w1 ⟨rfl, hb1⟩
        have hB := ((BlkIs.new w 39 #[.int .i64 t, .int .i64 f]).alloc (.cells #[.int .i64 0, .int .i64 0] 39)).below hb1 (by simp <;> omega)
        have hR := (BlkIs.new (w.alloc (.cells #[.int .i64 t, .int .i64 f] 39)) 39 #[.int .i64 0, .int .i64 0]).below hb1 (by simp <;> omega)
        have hbw : Below w.heap.size w w1 := (((Below.refl _ _).alloc (Nat.le_refl _) _).alloc (by simp) _).trans (hb1.mono (by simp <;> omega))
        rw [show (w.alloc (.cells #[.int .i64 t, .int .i64 f] 39)).heap.size = w.heap.size + 1 from by simp] at hR
        have hcb := hB.cell
        have hfb := hB.free
        have hcr := hR.cell
        have hfr := hR.free
        have hzw : w.heap.size + 1 < w1.heap.size := by have := hR.lt; omega
        skip
        clear hB hR hb1
        go_wp2_with (go_at_call 23; refine (refNewer_any _ _ _ _ _).mono ?_; rintro e w2 ⟨rfl, rfl⟩; rw [Hn.out])
        refine bodyPost_ret (v := .tuple #[.agg #[.int .i64 s1, .int .i64 s2], .bool false]) ?_ rfl ?_
        · simp [results, Try.results14, go_sem, hcb, hfb, hcr, hfr]
        · rw [Hv.out]
          exact ⟨rfl, by repeat (first | exact hbw | refine Below.setCell ?_ (by simp) _)⟩
    · have d2 : (s2 != -1) = true := by rw [bne_iff_ne]; exact h2
      by_cases h3 : s2 = who
      · have d3 : (s2 != who) = false := by simpa using h3
        cases hn : newerB ea la eb lb with
        | true =>
          rw [if_neg (by rw [hn]; rintro (h | h | h); exact h h1; exact h.2 h3; cases h)] at hv
          have Hn := Lib.hid hn
          clear hn h1 h2 h3
          have Hv := Lib.hid hv; clear hv
          go_enter Try.func14, Try.ntmps14
          go_wp2_with fail
          refine Hse.out.mono ?_
          rintro e w1 ⟨rfl, hb1⟩
          have hB := ((BlkIs.new w 39 #[.int .i64 t, .int .i64 f]).alloc (.cells #[.int .i64 0, .int .i64 0] 39)).below hb1 (by simp <;> omega)
          have hR := (BlkIs.new (w.alloc (.cells #[.int .i64 t, .int .i64 f] 39)) 39 #[.int .i64 0, .int .i64 0]).below hb1 (by simp <;> omega)
          have hbw : Below w.heap.size w w1 := (((Below.refl _ _).alloc (Nat.le_refl _) _).alloc (by simp) _).trans (hb1.mono (by simp <;> omega))
          rw [show (w.alloc (.cells #[.int .i64 t, .int .i64 f] 39)).heap.size = w.heap.size + 1 from by simp] at hR
          have hcb := hB.cell
          have hfb := hB.free
          have hcr := hR.cell
          have hfr := hR.free
          have hzw : w.heap.size + 1 < w1.heap.size := by have := hR.lt; omega
          have hcw1 : (w1.setCell ⟨w.heap.size, 0, none⟩ (.int .i64 s1)).cell? ⟨w.heap.size, 1, none⟩ = some (.int .i64 f) := (World.cell?_setCell_other w1 _ _ _ (by simp)).trans (hcb 1)
          have hcw := World.cell?_setCell_same _ ⟨w.heap.size, 1, none⟩ (.int .i64 who) (World.cell?_setCell_same _ ⟨w.heap.size, 1, none⟩ (.int .i64 s2) hcw1)
          clear hcw1
          clear hB hR hb1
          go_wp2_with (go_at_call 23; refine (refNewer_any _ _ _ _ _).mono ?_; rintro e w2 ⟨rfl, rfl⟩; rw [Hn.out])
          refine bodyPost_ret (v := .tuple #[.agg #[.int .i64 s1, .int .i64 who], .bool true]) ?_ rfl ?_
          · simp [results, Try.results14, go_sem, hcb, hfb, hcr, hfr]
          · rw [Hv.out]
            exact ⟨rfl, by repeat (first | exact hbw | refine Below.setCell ?_ (by simp) _)⟩
        | false =>
          rw [if_pos (.inr (.inr hn))] at hv
          have Hn := Lib.hid hn
          clear hn h1 h2 h3
          have Hv := Lib.hid hv; clear hv
          go_enter Try.func14, Try.ntmps14
          go_wp2_with fail
          refine Hse.out.mono ?_
          rintro e w1 ⟨rfl, hb1⟩
          have hB := ((BlkIs.new w 39 #[.int .i64 t, .int .i64 f]).alloc (.cells #[.int .i64 0, .int .i64 0] 39)).below hb1 (by simp <;> omega)
          have hR := (BlkIs.new (w.alloc (.cells #[.int .i64 t, .int .i64 f] 39)) 39 #[.int .i64 0, .int .i64 0]).below hb1 (by simp <;> omega)
          have hbw : Below w.heap.size w w1 := (((Below.refl _ _).alloc (Nat.le_refl _) _).alloc (by simp) _).trans (hb1.mono (by simp <;> omega))
          rw [show (w.alloc (.cells #[.int .i64 t, .int .i64 f] 39)).heap.size = w.heap.size + 1 from by simp] at hR
          have hcb := hB.cell
          have hfb := hB.free
          have hcr := hR.cell
          have hfr := hR.free
          have hzw : w.heap.size + 1 < w1.heap.size := by have := hR.lt; omega
          skip
          clear hB hR hb1
          go_wp2_with (go_at_call 23; refine (refNewer_any _ _ _ _ _).mono ?_; rintro e w2 ⟨rfl, rfl⟩; rw [Hn.out])
          refine bodyPost_ret (v := .tuple #[.agg #[.int .i64 s1, .int .i64 s2], .bool false]) ?_ rfl ?_
          · simp [results, Try.results14, go_sem, hcb, hfb, hcr, hfr]
          · rw [Hv.out]
            exact ⟨rfl, by repeat (first | exact hbw | refine Below.setCell ?_ (by simp) _)⟩
      · have d3 : (s2 != who) = true := by rw [bne_iff_ne]; exact h3
        rw [if_pos (.inr (.inl ⟨h2, h3⟩))] at hv
        clear h1 h2 h3
        have Hv := Lib.hid hv; clear hv
        go_enter Try.func14, Try.ntmps14
        go_wp2_with fail
        refine Hse.out.mono ?_
        rintro e w1 ⟨rfl, hb1⟩
        have hB := ((BlkIs.new w 39 #[.int .i64 t, .int .i64 f]).alloc (.cells #[.int .i64 0, .int .i64 0] 39)).below hb1 (by simp <;> omega)
        have hR := (BlkIs.new (w.alloc (.cells #[.int .i64 t, .int .i64 f] 39)) 39 #[.int .i64 0, .int .i64 0]).below hb1 (by simp <;> omega)
        have hbw : Below w.heap.size w w1 := (((Below.refl _ _).alloc (Nat.le_refl _) _).alloc (by simp) _).trans (hb1.mono (by simp <;> omega))
        rw [show (w.alloc (.cells #[.int .i64 t, .int .i64 f] 39)).heap.size = w.heap.size + 1 from by simp] at hR
        have hcb := hB.cell
        have hfb := hB.free
        have hcr := hR.cell
        have hfr := hR.free
        have hzw : w.heap.size + 1 < w1.heap.size := by have := hR.lt; omega
        skip
        clear hB hR hb1
        go_wp2_with (go_at_call 23; refine (refNewer_any _ _ _ _ _).mono ?_; rintro e w2 ⟨rfl, rfl⟩; skip)
        refine bodyPost_ret (v := .tuple #[.agg #[.int .i64 s1, .int .i64 s2], .bool false]) ?_ rfl ?_
        · simp [results, Try.results14, go_sem, hcb, hfb, hcr, hfr]
        · rw [Hv.out]
          exact ⟨rfl, by repeat (first | exact hbw | refine Below.setCell ?_ (by simp) _)⟩
  · have d1 : (term != s1) = true := by rw [bne_iff_ne]; exact h1
    rw [if_pos (.inl h1)] at hv
    clear h1
    have Hv := Lib.hid hv; clear hv
    go_enter Try.func14, Try.ntmps14
    go_wp2_with fail
    refine Hse.out.mono ?_
    rintro e w1 ⟨rfl, hb1⟩
    have hB := ((BlkIs.new w 39 #[.int .i64 t, .int .i64 f]).alloc (.cells #[.int .i64 0, .int .i64 0] 39)).below hb1 (by simp <;> omega)
    have hR := (BlkIs.new (w.alloc (.cells #[.int .i64 t, .int .i64 f] 39)) 39 #[.int .i64 0, .int .i64 0]).below hb1 (by simp <;> omega)
    have hbw : Below w.heap.size w w1 := (((Below.refl _ _).alloc (Nat.le_refl _) _).alloc (by simp) _).trans (hb1.mono (by simp <;> omega))
    rw [show (w.alloc (.cells #[.int .i64 t, .int .i64 f] 39)).heap.size = w.heap.size + 1 from by simp] at hR
    have hcb := hB.cell
    have hfb := hB.free
    have hcr := hR.cell
    have hfr := hR.free
    have hzw : w.heap.size + 1 < w1.heap.size := by have := hR.lt; omega
    skip
    clear hB hR hb1
    go_wp2_with (go_at_call 23; refine (refNewer_any _ _ _ _ _).mono ?_; rintro e w2 ⟨rfl, rfl⟩; skip)
    refine bodyPost_ret (v := .tuple #[.agg #[.int .i64 s1, .int .i64 s2], .bool false]) ?_ rfl ?_
    · simp [results, Try.results14, go_sem, hcb, hfb, hcr, hfr]
    · rw [Hv.out]
      exact ⟨rfl, by repeat (first | exact hbw | refine Below.setCell ?_ (by simp) _)⟩


theorem refStand_any (t f who : Int) (w : World) (ht : -9223372036854775808 ≤ t ∧ t ≤ 9223372036854775807) :
    Calls Try.prog 22 #[.agg #[.int .i64 t, .int .i64 f], .int .i64 who] w fun e w' =>
      e = .returned (.agg #[.int .i64 (standL (t, f) who).1, .int .i64 (standL (t, f) who).2]) ∧ Below w.heap.size w w' := by
  obtain ⟨ht1, ht2⟩ := ht
  by_cases a : t = 2147483647
  · have hv : standL (t, f) who = (t, f) := by unfold standL; rw [if_pos a]
    have da : (t == 2147483647) = true := by simpa using a
    have Hv := Lib.hid hv; clear hv
    clear a
    go_enter Try.func22, Try.ntmps22
    go_wp2_with fail
    refine bodyPost_ret (v := .agg #[.int .i64 (t), .int .i64 f]) ?_ rfl ?_
    · simp [results, Try.results22, go_sem]
    · rw [Hv.out]
      exact ⟨rfl, by repeat (first | exact Below.refl _ _ | refine Below.alloc ?_ (by simp) _)⟩
  · have da : (t == 2147483647) = false := by simpa using a
    by_cases b : t = 9223372036854775807
    · have hv : standL (t, f) who = (t, who) := by unfold standL; rw [if_neg a, if_pos b]
      have db : decide (t < 9223372036854775807) = false := by simp; omega
      have Hv := Lib.hid hv; clear hv
      clear a b
      go_enter Try.func22, Try.ntmps22
      go_wp2_with fail
      refine bodyPost_ret (v := .agg #[.int .i64 (t), .int .i64 who]) ?_ rfl ?_
      · simp [results, Try.results22, go_sem]
      · rw [Hv.out]
        exact ⟨rfl, by repeat (first | exact Below.refl _ _ | refine Below.alloc ?_ (by simp) _)⟩
    · have hv : standL (t, f) who = (t + 1, who) := by unfold standL; rw [if_neg a, if_neg b]
      have db : decide (t < 9223372036854775807) = true := by simp; omega
      have ht3 : t ≤ 9223372036854775806 := by omega
      have Hv := Lib.hid hv; clear hv
      clear a b
      go_enter Try.func22, Try.ntmps22
      go_wp2_with fail
      refine bodyPost_ret (v := .agg #[.int .i64 (t + 1), .int .i64 who]) ?_ rfl ?_
      · simp [results, Try.results22, go_sem]
      · rw [Hv.out]
        exact ⟨rfl, by repeat (first | exact Below.refl _ _ | refine Below.alloc ?_ (by simp) _)⟩

theorem small_any (t : Int) (w : World) :
    Calls Try.prog 32 #[.int .i64 t] w fun e w' => e = .returned (.bool (decide (0 ≤ t ∧ t ≤ 2147483647))) ∧ w = w' := by
  by_cases a : 0 ≤ t
  · by_cases b : t ≤ 2147483647
    · rw [decide_eq_true (⟨a, b⟩ : 0 ≤ t ∧ t ≤ 2147483647)]
      go_enter Try.func32, Try.ntmps32
      go_wp2_with fail
      go_ret
      exact ⟨rfl, rfl⟩
    · rw [decide_eq_false (fun h : 0 ≤ t ∧ t ≤ 2147483647 => b h.2)]
      have b' : decide (t ≤ 2147483647) = false := by simpa using b
      clear b
      go_enter Try.func32, Try.ntmps32
      go_wp2_with fail
      go_ret
      exact ⟨rfl, rfl⟩
  · rw [decide_eq_false (fun h : 0 ≤ t ∧ t ≤ 2147483647 => a h.1)]
    have a' : t < 0 := by omega
    clear a
    go_enter Try.func32, Try.ntmps32
    go_wp2_with fail
    go_ret
    exact ⟨rfl, rfl⟩

theorem refPutBallot_any (t f : Int) (w : World) :
    Calls Try.prog 15 #[.agg #[.int .i64 t, .int .i64 f]] w fun e w' =>
      e = .returned (.tuple #[.string ⟨(putV (t, f)).1.toArray⟩, .int .i64 (putV (t, f)).2]) ∧ Below w.heap.size w w' := by
  by_cases h : 0 ≤ t ∧ t ≤ 2147483647 ∧ -1 ≤ f ∧ f < 7
  · obtain ⟨a1, a2, a3, a4⟩ := h
    have hr : rightV (t, f) = true := by unfold rightV; rw [decide_eq_true_iff]; exact ⟨a1, a2, a3, a4⟩
    have hv : putV (t, f) = (frameL (ballotL (t, f)), 0) := by unfold putV; rw [hr]; rfl
    have hbl := ballotL_length (t, f)
    have hp : putL (ballotL (t, f)) = (frameL (ballotL (t, f)), 0) := by unfold putL; rw [if_neg (by omega)]
    have hbe : be64 t ++ be64 f = ballotL (t, f) := rfl
    have hsm := fun w => small_any t w
    rw [decide_eq_true (⟨a1, a2⟩ : 0 ≤ t ∧ t ≤ 2147483647)] at hsm
    have hd1 : decide (f < -1) = false := by simp; omega
    have hd2 : decide (6 < f) = false := by simp; omega
    have hbl1 := be64_length t
    have Hv := Lib.hid hv; have Hp := Lib.hid hp; have Hbe := Lib.hid hbe; have Hbl := Lib.hid hbl; have Hsm := Lib.hid hsm; have Hbl1 := Lib.hid hbl1
    clear hv hr hp hbe hbl hsm hbl1 a1 a2 a3 a4
    have hX := BlkIs.new w 39 #[.int .i64 t, .int .i64 f]
    have HX := Lib.hid hX; clear hX
    go_enter Try.func15, Try.ntmps15
    go_wp2_with fail
    refine (Hsm.out _).mono ?_
    rintro e w1 ⟨rfl, rfl⟩
    go_wp2_with fail
    refine (refNumI_any (w.heap.size + 1) (w.heap.size + 1) t [] _ (by have := rout_new (w.alloc (.cells #[.int .i64 t, .int .i64 f] 39)); simpa using this) (by simp) (by simp)).mono ?_
    rintro e w1 ⟨rfl, ho1, hb1⟩
    have hX1 := (HX.out.alloc (.cells #[.slice none 0 0, .int .i64 0] 74)).below hb1 (by simp)
    have hbw1 : Below w.heap.size w w1 := (((Below.refl _ _).alloc (Nat.le_refl _) _).alloc (by simp) _).trans (hb1.mono (by simp))
    have hc0 := hX1.cell 0; have hc1 := hX1.cell 1
    simp at hc0 hc1
    have hlt1 : w.heap.size + 1 < w1.heap.size := by obtain ⟨v, hB, _⟩ := ho1; exact hB.lt
    have Ho1 := Lib.hid ho1; have HX1 := Lib.hid hX1
    clear ho1 hX1 hb1
    go_wp2_with fail
    refine (refNumI_any (w.heap.size + 1) (w.heap.size + 1) f _ w1 Ho1.out (by omega) (by rw [List.nil_append, Hbl1.out]; decide)).mono ?_
    rintro e w2 ⟨rfl, ho2, hb2⟩
    rw [List.nil_append, Hbe.out] at ho2
    obtain ⟨v, hB2, _, hown⟩ := ho2
    have hq0 := hB2.cell 0
    simp at hq0
    have hbw2 := hbw1.trans (hb2.mono (Nat.le_succ _))
    obtain ⟨bs, hbs⟩ : ∃ bs, ballotL (t, f) = bs := ⟨_, rfl⟩
    rw [hbs] at hown Hv Hp Hbl
    have hstr := run_str_own (P := Try.prog) w2 60 9 5 Try.underlying60 Try.underlying5 Try.underlying9 (w.heap.size + 1) v bs hown
    clear hown hB2 hb2 hc0 hc1 hbs
    go_wp2_with fail
    refine (refFrame_any _ _ (by rw [size_mk, Hbl.out]; decide)).mono ?_
    rintro e w3 ⟨rfl, hb3⟩
    rw [show putL (ByteArray.mk bs.toArray).data.toList = _ from Hp.out]
    go_wp2_with fail
    go_ret2
    rw [Hv.out]
    exact ⟨rfl, hbw2.trans (hb3.mono hbw2.size)⟩
  · have hv : putV (t, f) = ([], 1) := by unfold putV; rw [if_neg]; unfold rightV; rw [decide_eq_true_iff]; exact h
    have Hv := Lib.hid hv; clear hv
    by_cases h1 : 0 ≤ t ∧ t ≤ 2147483647
    · have hsm := fun w => small_any t w
      rw [decide_eq_true h1] at hsm
      have Hsm := Lib.hid hsm
      have hc : f < -1 ∨ (-1 ≤ f ∧ 6 < f) := by omega
      clear hsm h h1
      rcases hc with b1 | ⟨b1, b2⟩
      all_goals
        go_enter Try.func15, Try.ntmps15
        go_wp2_with fail
        refine (Hsm.out _).mono ?_
        rintro e w1 ⟨rfl, rfl⟩
        go_wp2_with fail
        go_ret2
        rw [Hv.out]
        exact ⟨rfl, (Below.refl _ _).alloc (Nat.le_refl _) _⟩
    · have hsm := fun w => small_any t w
      rw [decide_eq_false h1] at hsm
      have Hsm := Lib.hid hsm
      clear hsm h h1
      go_enter Try.func15, Try.ntmps15
      go_wp2_with fail
      refine (Hsm.out _).mono ?_
      rintro e w1 ⟨rfl, rfl⟩
      go_wp2_with fail
      go_ret2
      rw [Hv.out]
      exact ⟨rfl, (Below.refl _ _).alloc (Nat.le_refl _) _⟩
end Go.Proofs.Ytbcbjibbeieaiaa
