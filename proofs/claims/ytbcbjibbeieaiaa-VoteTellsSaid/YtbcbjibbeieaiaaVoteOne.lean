/- package vote: one, walked. -/
import Derived.Test.YtbcbjibbeieaiaaVote2
namespace Go.Proofs.Ytbcbjibbeieaiaa
open Go.RowKit
set_option maxHeartbeats 2000000
set_option maxRecDepth 100000
set_option linter.unusedVariables false

theorem below_two {B g : Nat} {a w : World} (h : Below B a w) (hg : B ≤ g) (v0 v1 : Value) : Below B a ((w.setCell ⟨g, 0, none⟩ v0).setCell ⟨g, 1, none⟩ v1) :=
  (h.setCell (p := ⟨g, 0, none⟩) hg v0).setCell (p := ⟨g, 1, none⟩) hg v1

theorem one_any (s : ByteArray) (w : World) (hs : s.size ≤ 1000000000) :
    Calls Try.prog 31 #[.string s] w fun e w' =>
      e = .returned (.tuple #[.agg #[.int .i64 (oneL s.data.toList).1.1, .int .i64 (oneL s.data.toList).1.2], .bool (oneL s.data.toList).2]) ∧ Below w.heap.size w w' := by
  obtain ⟨l, hl⟩ : ∃ l, s.data.toList = l := ⟨_, rfl⟩
  have hsl : l.length ≤ 1000000000 := by rw [← hl, ← size_list]; exact hs
  obtain ⟨a1, ha1⟩ : ∃ a1, inTake 8 l 0 = a1 := ⟨_, rfl⟩
  obtain ⟨a2, ha2⟩ : ∃ a2, inTake 8 a1.2.1 a1.2.2 = a2 := ⟨_, rfl⟩
  have hl1 : a1.2.1.length ≤ 1000000000 := by
    rw [← ha1]; unfold inTake; split
    · exact hsl
    · split
      · exact hsl
      · simp only [List.length_drop]; omega
  have hl2 : a2.2.1.length ≤ 1000000000 := by
    rw [← ha2]; unfold inTake; split
    · exact hl1
    · split
      · exact hl1
      · simp only [List.length_drop]; omega
  have hend := oneEnd l
  rw [ha1, ha2] at hend
  have hv : oneL l = ((i64L a1.1, i64L a2.1), decide (l.length = 16) && rightV (i64L a1.1, i64L a2.1)) := by unfold oneL; rw [ha1, ha2]
  obtain ⟨x, hx⟩ : ∃ x, i64L a1.1 = x := ⟨_, rfl⟩
  obtain ⟨y, hy⟩ : ∃ y, i64L a2.1 = y := ⟨_, rfl⟩
  obtain ⟨E, hE⟩ : ∃ E, endL a2.2.1 a2.2.2 = E := ⟨_, rfl⟩
  rw [hE] at hend
  rw [hx, hy] at hv
  rw [hl]
  have Hl := Lib.hid hl; have Ha1 := Lib.hid ha1; have Ha2 := Lib.hid ha2; have Hx := Lib.hid hx; have Hy := Lib.hid hy; have HE := Lib.hid hE; have Hv := Lib.hid hv
  clear hl ha1 ha2 hx hy hE hv
  by_cases h16 : l.length = 16
  · rw [decide_eq_true h16] at hend
    have Hv2 : Hid (oneL l = ((x, y), rightV (x, y))) := Lib.hid (by rw [Hv.out, decide_eq_true h16]; rfl)
    clear h16
    go_enter Try.func31, Try.ntmps31
    go_wp2_with fail
    refine (newIn_any s _ hs).mono ?_
    rintro e w1 ⟨g, rfl, hi1, hb1⟩
    rw [Hl.out] at hi1
    have hr1 := (BlkIs.new w 32 #[.int .i64 0, .int .i64 0]).below hb1 (by simp)
    have hbw1 : Below w.heap.size w w1 := ((Below.refl _ _).alloc (Nat.le_refl _) _).trans (hb1.mono (by simp))
    have Hi1 := Lib.hid hi1; have Hr1 := Lib.hid hr1
    have hbs : (w.alloc (.cells #[.int .i64 0, .int .i64 0] 32)).heap.size = w.heap.size + 1 := by simp
    rw [hbs] at Hi1 hb1
    clear hi1 hr1 hbs
    go_wp2_with fail
    have h1 := inI64_any g (w.heap.size + 1) l 0 w1 Hi1.out hsl
    rw [Ha1.out, Hx.out] at h1
    refine h1.mono ?_
    rintro e w2 ⟨rfl, hi2, hb2⟩
    have Hi2 := Lib.hid hi2
    clear hi2 h1
    go_wp2_with fail
    have h2 := inI64_any g (w.heap.size + 1) a1.2.1 a1.2.2 w2 Hi2.out hl1
    rw [Ha2.out, Hy.out] at h2
    refine h2.mono ?_
    rintro e w3 ⟨rfl, hi3, hb3⟩
    have hb13 := hb2.trans hb3
    have hr3 := Hr1.out.below hb13 (by omega)
    have hi3' := hi3.alloc (.cells #[.int .i64 x, .int .i64 y] 32)
    have hbw3 := hbw1.trans (hb13.mono (by omega))
    have hlt03 : w.heap.size < w3.heap.size := hr3.lt
    have hr3' := hr3.alloc (.cells #[.int .i64 x, .int .i64 y] 32)
    have hcr3 := hr3'.cell
    have hfr3 := hr3'.free
    have hX := BlkIs.new w3 32 #[.int .i64 x, .int .i64 y]
    have hcb3 := hX.cell
    have hgl : g < w3.heap.size := hi3.lt
    have Hi3 := Lib.hid hi3'
    have hg0 : w.heap.size + 1 ≤ g := Hi1.out.1
    clear h2 hi3 hi3' hr3 hr3' hX hb2 hb3
    go_wp2_with fail
    go_region_with (first
      | (go_at_call 45; go_loud (refine (inEnd_any g (w.heap.size + 1) a2.2.1 a2.2.2 _ (by exact Hi3.out) hl2).mono ?_; rintro e w4 ⟨rfl, hg4, hb4⟩; rw [HE.out]; have hs4 := hg4.size; simp at hs4; have hlt4 : w3.heap.size < w4.heap.size := (by omega); have hlt04 : w.heap.size < w4.heap.size := (by omega); have hcb4 : ∀ i, w4.cell? ⟨w3.heap.size, i, none⟩ = #[Value.int .i64 x, .int .i64 y][i]? := fun i => (hg4.cell_far (a := ⟨w3.heap.size, i, none⟩) (by simp) (by simp <;> omega)).trans (hcb3 i); have hcr4 : ∀ i, w4.cell? ⟨w.heap.size, i, none⟩ = #[Value.int .i64 0, .int .i64 0][i]? := fun i => (hg4.cell_far (a := ⟨w.heap.size, i, none⟩) (by simp <;> omega) (by simp <;> omega)).trans (hcr3 i); have hfr4 : ∀ i, w4.frozen? ⟨w.heap.size, i, none⟩ = false := fun i => (hg4.frozen_far (a := ⟨w.heap.size, i, none⟩) (by simp <;> omega) (by simp <;> omega)).trans (hfr3 i); have hbw4 : Below w.heap.size w w4 := (hbw3.alloc hbw3.size (.cells #[.int .i64 x, .int .i64 y] 32)).trans (by first | exact below_undrewN (hb4.mono (by omega)) | exact below_undrew (hb4.mono (by omega)) | exact hb4.mono (by omega))))
      | (go_at_call 26; refine (rightV_any x y _).mono ?_; rintro e w5 ⟨rfl, hb5⟩; have hcb5 : ∀ i, w5.cell? ⟨w3.heap.size, i, none⟩ = #[Value.int .i64 x, .int .i64 y][i]? := fun i => (hb5.cell (p := ⟨w3.heap.size, i, none⟩) hlt4).trans (hcb4 i); have hcr5 : ∀ i, w5.cell? ⟨w.heap.size, i, none⟩ = #[Value.int .i64 0, .int .i64 0][i]? := fun i => (hb5.cell (p := ⟨w.heap.size, i, none⟩) hlt04).trans (hcr4 i); have hfr5 : ∀ i, w5.frozen? ⟨w.heap.size, i, none⟩ = false := fun i => (hb5.frozen (p := ⟨w.heap.size, i, none⟩) hlt04).trans (hfr4 i)))
    all_goals
      go_wp2_with fail
      refine bodyPost_ret (v := .tuple #[.agg #[.int .i64 x, .int .i64 y], .bool (rightV (x, y))]) ?_ rfl ?_
      · simp [results, Try.results31, go_sem, hcr5, hfr5]
      · rw [Hv2.out]
        refine ⟨rfl, ?_⟩
        refine below_two ?_ (Nat.le_refl _) _ _
        have h5 := hbw4.trans (hb5.mono hbw4.size)
        exact ⟨h5.os, h5.tape, h5.output, h5.size, h5.block⟩
  · rw [decide_eq_false h16] at hend
    have Hv2 : Hid (oneL l = ((x, y), false)) := Lib.hid (by rw [Hv.out, decide_eq_false h16]; rfl)
    clear h16
    go_enter Try.func31, Try.ntmps31
    go_wp2_with fail
    refine (newIn_any s _ hs).mono ?_
    rintro e w1 ⟨g, rfl, hi1, hb1⟩
    rw [Hl.out] at hi1
    have hr1 := (BlkIs.new w 32 #[.int .i64 0, .int .i64 0]).below hb1 (by simp)
    have hbw1 : Below w.heap.size w w1 := ((Below.refl _ _).alloc (Nat.le_refl _) _).trans (hb1.mono (by simp))
    have Hi1 := Lib.hid hi1; have Hr1 := Lib.hid hr1
    have hbs : (w.alloc (.cells #[.int .i64 0, .int .i64 0] 32)).heap.size = w.heap.size + 1 := by simp
    rw [hbs] at Hi1 hb1
    clear hi1 hr1 hbs
    go_wp2_with fail
    have h1 := inI64_any g (w.heap.size + 1) l 0 w1 Hi1.out hsl
    rw [Ha1.out, Hx.out] at h1
    refine h1.mono ?_
    rintro e w2 ⟨rfl, hi2, hb2⟩
    have Hi2 := Lib.hid hi2
    clear hi2 h1
    go_wp2_with fail
    have h2 := inI64_any g (w.heap.size + 1) a1.2.1 a1.2.2 w2 Hi2.out hl1
    rw [Ha2.out, Hy.out] at h2
    refine h2.mono ?_
    rintro e w3 ⟨rfl, hi3, hb3⟩
    have hb13 := hb2.trans hb3
    have hr3 := Hr1.out.below hb13 (by omega)
    have hi3' := hi3.alloc (.cells #[.int .i64 x, .int .i64 y] 32)
    have hbw3 := hbw1.trans (hb13.mono (by omega))
    have hlt03 : w.heap.size < w3.heap.size := hr3.lt
    have hr3' := hr3.alloc (.cells #[.int .i64 x, .int .i64 y] 32)
    have hcr3 := hr3'.cell
    have hfr3 := hr3'.free
    have hX := BlkIs.new w3 32 #[.int .i64 x, .int .i64 y]
    have hcb3 := hX.cell
    have hgl : g < w3.heap.size := hi3.lt
    have Hi3 := Lib.hid hi3'
    have hg0 : w.heap.size + 1 ≤ g := Hi1.out.1
    clear h2 hi3 hi3' hr3 hr3' hX hb2 hb3
    go_wp2_with fail
    go_region_with (go_at_call 45; go_loud (refine (inEnd_any g (w.heap.size + 1) a2.2.1 a2.2.2 _ (by exact Hi3.out) hl2).mono ?_; rintro e w4 ⟨rfl, hg4, hb4⟩; rw [HE.out]; have hs4 := hg4.size; simp at hs4; have hlt4 : w3.heap.size < w4.heap.size := (by omega); have hlt04 : w.heap.size < w4.heap.size := (by omega); have hcb4 : ∀ i, w4.cell? ⟨w3.heap.size, i, none⟩ = #[Value.int .i64 x, .int .i64 y][i]? := fun i => (hg4.cell_far (a := ⟨w3.heap.size, i, none⟩) (by simp) (by simp <;> omega)).trans (hcb3 i); have hcr4 : ∀ i, w4.cell? ⟨w.heap.size, i, none⟩ = #[Value.int .i64 0, .int .i64 0][i]? := fun i => (hg4.cell_far (a := ⟨w.heap.size, i, none⟩) (by simp <;> omega) (by simp <;> omega)).trans (hcr3 i); have hfr4 : ∀ i, w4.frozen? ⟨w.heap.size, i, none⟩ = false := fun i => (hg4.frozen_far (a := ⟨w.heap.size, i, none⟩) (by simp <;> omega) (by simp <;> omega)).trans (hfr3 i); have hbw4 : Below w.heap.size w w4 := (hbw3.alloc hbw3.size (.cells #[.int .i64 x, .int .i64 y] 32)).trans (by first | exact below_undrewN (hb4.mono (by omega)) | exact below_undrew (hb4.mono (by omega)) | exact hb4.mono (by omega))))
    all_goals
      go_wp2_with fail
      refine bodyPost_ret (v := .tuple #[.agg #[.int .i64 x, .int .i64 y], .bool false]) ?_ rfl ?_
      · simp [results, Try.results31, go_sem, hcr4, hfr4]
      · rw [Hv2.out]
        refine ⟨rfl, ?_⟩
        refine below_two ?_ (Nat.le_refl _) _ _
        exact ⟨hbw4.os, hbw4.tape, hbw4.output, hbw4.size, hbw4.block⟩
end Go.Proofs.Ytbcbjibbeieaiaa
