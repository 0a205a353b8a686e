/- chapter 22: ship.Get (printed by mkshipent.py). -/
import Derived.Test.YtnnnilpgnjndlaaCShipBytesShipEnt

namespace Go.Proofs.Ytnnnilpgnjndlaa
open Go.RowKit
set_option maxHeartbeats 4000000
set_option maxRecDepth 100000
set_option linter.unusedVariables false
attribute [local go_sem] run_store_flt

/-- a struct of nine cells stored whole -/
def setNine (w : World) (g : Nat) (d0 d1 d2 d3 d4 d5 d6 d7 d8 : Value) : World := (setEight w g d0 d1 d2 d3 d4 d5 d6 d7).setCell ⟨g, 8, none⟩ d8
theorem blk_nine {w : World} {g : Nat} {t : TypeId} {c0 c1 c2 c3 c4 c5 c6 c7 c8 : Value} (h : BlkIs w g t #[c0, c1, c2, c3, c4, c5, c6, c7, c8]) (d0 d1 d2 d3 d4 d5 d6 d7 d8 : Value) : BlkIs (setNine w g d0 d1 d2 d3 d4 d5 d6 d7 d8) g t #[d0, d1, d2, d3, d4, d5, d6, d7, d8] :=
by
  have h9 := ((((((((h.put 0 d0).put 1 d1).put 2 d2).put 3 d3).put 4 d4).put 5 d5).put 6 d6).put 7 d7).put 8 d8
  simp only [List.setIfInBounds_toArray, List.set_cons_zero, List.set_cons_succ] at h9
  exact h9
theorem below_nine {a w : World} {B g : Nat} (h : Below B a w) (hg : B ≤ g) (d0 d1 d2 d3 d4 d5 d6 d7 d8 : Value) : Below B a (setNine w g d0 d1 d2 d3 d4 d5 d6 d7 d8) := (below_eight h hg d0 d1 d2 d3 d4 d5 d6 d7).setCell (p := ⟨g, 8, none⟩) hg d8
theorem own_nine {w : World} {base n g c : Nat} {e : TypeId} {v : Value} {xs : List Value} (h : w.ownsRow base e c v n xs) (hg : v.ownBlock ≠ some g) (d0 d1 d2 d3 d4 d5 d6 d7 d8 : Value) : (setNine w g d0 d1 d2 d3 d4 d5 d6 d7 d8).ownsRow base e c v n xs := own_far (a := ⟨g, 8, none⟩) (own_eight h hg d0 d1 d2 d3 d4 d5 d6 d7) hg d8
theorem getN_short {b : List UInt8} (h : b.length < 4) : getN b = (0, .none, 5) := by unfold getN; rw [if_pos h]
theorem inTake4 {b : List UInt8} (h : ¬ b.length < 4) : inNum 4 b 0 = beVal (b.take 4) := by
  unfold inNum inTake
  rw [if_neg (by simp), if_neg h]

theorem shipGet_any (b : ByteArray) (w : World) (hb : b.size ≤ 100000) :
    Calls Try.prog 12 #[.string b] w fun y w' => ∃ A n cap, y = .returned (.tuple #[.agg #[.int .i64 (getN b.data.toList).1, .int .i64 (getN b.data.toList).2.1.k, .int .i64 (getN b.data.toList).2.1.t, .string (getN b.data.toList).2.1.s, .int .i64 (getN b.data.toList).2.1.x, .slice A n cap, .int .i64 (getN b.data.toList).2.1.m0, .int .i64 (getN b.data.toList).2.1.m1, .int .i64 (getN b.data.toList).2.1.m2], .int .i64 (getN b.data.toList).2.2]) ∧
      w'.ownsRow w.heap.size 57 4 (.slice A n cap) n (evVs (getN b.data.toList).2.1.es) ∧ Below w.heap.size w w' := by
  have hsl := size_list b
  obtain ⟨W0, hW0⟩ : ∃ W0, w.alloc (.cells #[.int .i64 0, .int .i64 0, .int .i64 0, .string ⟨#[]⟩, .int .i64 0, .slice none 0 0, .int .i64 0, .int .i64 0, .int .i64 0] 33) = W0 := ⟨_, rfl⟩
  have hR : BlkIs W0 w.heap.size 33 #[.int .i64 0, .int .i64 0, .int .i64 0, .string ⟨#[]⟩, .int .i64 0, .slice none 0 0, .int .i64 0, .int .i64 0, .int .i64 0] := by rw [← hW0]; exact BlkIs.new _ _ _
  have hb0 : Below w.heap.size w W0 := by rw [← hW0]; exact (Below.refl _ _).alloc (Nat.le_refl _) _
  have R0 := Lib.hid hR; have W0' := Lib.hid hb0
  by_cases h4 : b.size < 4
  · have d4 : decide ((b.size : Int) < 4) = true := decide_eq_true (by omega)
    have HG : Hid (getN b.data.toList = (0, .none, 5)) := Lib.hid (getN_short (by rw [← hsl]; exact h4))
    have hcR := hR.cell; have hfR := hR.free; have hRl := hR.lt
    clear hR hb0 h4 hsl
    go_enter Try.func12, Try.ntmps12
    go_wp2_with fail
    (try rw [hW0])
    change bodyPost _ _ _ _ _ (setNine W0 w.heap.size (.int .i64 0) (.int .i64 0) (.int .i64 0) (.string ⟨#[]⟩) (.int .i64 0) (.slice none 0 0) (.int .i64 0) (.int .i64 0) (.int .i64 0))
    have hB9 := blk_nine R0.out (.int .i64 0) (.int .i64 0) (.int .i64 0) (.string ⟨#[]⟩) (.int .i64 0) (.slice none 0 0) (.int .i64 0) (.int .i64 0) (.int .i64 0)
    have hW9 := below_nine W0'.out (Nat.le_refl w.heap.size) (.int .i64 0) (.int .i64 0) (.int .i64 0) (.string ⟨#[]⟩) (.int .i64 0) (.slice none 0 0) (.int .i64 0) (.int .i64 0) (.int .i64 0)
    generalize setNine W0 w.heap.size (.int .i64 0) (.int .i64 0) (.int .i64 0) (.string ⟨#[]⟩) (.int .i64 0) (.slice none 0 0) (.int .i64 0) (.int .i64 0) (.int .i64 0) = WE at hB9 hW9 ⊢
    have hcell := hB9.cell; have hfree := hB9.free; have hlt9 := hB9.lt
    clear hcR hfR hRl
    refine bodyPost_ret (v := .tuple #[.agg #[.int .i64 0, .int .i64 0, .int .i64 0, .string ⟨#[]⟩, .int .i64 0, .slice none 0 0, .int .i64 0, .int .i64 0, .int .i64 0], .int .i64 5]) ?_ rfl ?_
    · simp [results, Try.results12, go_sem, hcell, hfree, hlt9]
    · rw [HG.out]
      exact ⟨none, 0, 0, rfl, World.ownsRow_nil _ _ _ _, hW9⟩
  · have d4 : decide ((b.size : Int) < 4) = false := decide_eq_false (by omega)
    have d5 : (4 : Int) ≤ (b.size : Int) := by omega
    have hn4 : ¬ b.data.toList.length < 4 := by rw [← hsl]; exact h4
    have hx : b.extract 4 b.size = ⟨(b.data.toList.drop 4).toArray⟩ := str_from b 4
    obtain ⟨q, hq⟩ : ∃ q, beVal (b.data.toList.take 4) = q := ⟨_, rfl⟩
    obtain ⟨y, hy⟩ : ∃ y, getC (b.data.toList.drop 4) = y := ⟨_, rfl⟩
    have hgN : getN b.data.toList = if y.2 ≠ 0 ∨ smallE (q : Nat) = false then (0, .none, 6) else (((q : Nat) : Int), y.1, 0) := by unfold getN; rw [if_neg hn4, hy, hq]
    have hg : ∀ w, Calls Try.prog 35 #[.string (b.extract 4 b.size)] w fun e w' => ∃ A n cap, e = .returned (.tuple #[.agg #[.int .i64 y.1.k, .int .i64 y.1.t, .string y.1.s, .int .i64 y.1.x, .slice A n cap, .int .i64 y.1.m0, .int .i64 y.1.m1, .int .i64 y.1.m2], .int .i64 y.2]) ∧ w'.ownsRow w.heap.size 57 4 (.slice A n cap) n (evVs y.1.es) ∧ Below w.heap.size w w' := fun w => by
      have := get_any (b.extract 4 b.size) w (by rw [hx, size_mk, List.length_drop]; omega)
      rw [hx] at this ⊢
      rw [show (⟨(b.data.toList.drop 4).toArray⟩ : ByteArray).data.toList = b.data.toList.drop 4 from rfl, hy] at this
      exact this
    have hin := inTake4 hn4
    rw [hq] at hin
    have HgN := Lib.hid hgN; have Hg := Lib.hid hg; have Hin := Lib.hid hin
    have hqs : decide (2147483647 < (q : Int)) = !smallE (q : Nat) := by unfold smallE; rw [← decide_not]; exact decide_eq_decide.2 (by omega)
    have hbs : b.size ≤ 1000000000 := by omega
    have hbl : b.data.toList.length ≤ 1000000000 := by omega
    have Hbl := Lib.hid hbl
    clear hR hb0 hx hy hgN hg hq hin hn4 hsl hbl
    go_enter Try.func12, Try.ntmps12
    go_wp2_with fail
    (try rw [hW0])
    refine (newIn_any b W0 hbs).mono ?_
    rintro e w1 ⟨g, rfl, hi1, hb1⟩
    have R1 := Lib.hid (R0.out.below hb1 R0.out.lt); have W1 := Lib.hid (W0'.out.trans (hb1.mono W0'.out.size)); have I1 := Lib.hid hi1
    have hgr : w.heap.size < g := Nat.lt_of_lt_of_le R0.out.lt hi1.1
    clear hi1 hb1 hW0
    go_wp2_with fail
    have c0 := inU32G g W0.heap.size b.data.toList 0 w1 I1.out Hbl.out
    rw [Hin.out] at c0
    refine c0.mono ?_
    rintro e w2 ⟨rfl, hi2, hb2⟩
    have R2 := Lib.hid (R1.out.keptBy hb2 (by omega)); have W2 := Lib.hid (W1.out.grown hb2 (by exact W1.out.size) (fun q hq => by injection hq with hq; omega))
    clear hi2 hb2 c0
    go_wp2_with fail
    refine (Hg.out _).mono ?_
    rintro e w3 ⟨A, n, cap, rfl, hown3, hb3⟩
    have R3 := Lib.hid (R2.out.below hb3 R2.out.lt); have W3 := Lib.hid (W2.out.trans (hb3.mono W2.out.size)); have O3 := Lib.hid hown3
    have hw2 : w.heap.size < w2.heap.size := R2.out.lt
    clear hown3 hb3
    obtain ⟨w4, hw4⟩ : ∃ V, w3.alloc (.cells #[.int .i64 y.1.k, .int .i64 y.1.t, .string y.1.s, .int .i64 y.1.x, .slice A n cap, .int .i64 y.1.m0, .int .i64 y.1.m1, .int .i64 y.1.m2] 26) = V := ⟨_, rfl⟩
    have hb4 : Below w3.heap.size w3 w4 := by rw [← hw4]; exact (Below.refl _ _).alloc (Nat.le_refl _) _
    have hM4 : BlkIs w4 w3.heap.size 26 #[.int .i64 y.1.k, .int .i64 y.1.t, .string y.1.s, .int .i64 y.1.x, .slice A n cap, .int .i64 y.1.m0, .int .i64 y.1.m1, .int .i64 y.1.m2] := by rw [← hw4]; exact BlkIs.new _ _ _
    have R4 := Lib.hid (R3.out.below hb4 R3.out.lt); have W4 := Lib.hid (W3.out.trans (hb4.mono W3.out.size)); have O4 := Lib.hid (own_below O3.out hb4 (fun q hq => (O3.out.lt q hq).2))
    have hcM := hM4.cell
    have hcR := R4.out.cell; have hfR := R4.out.free; have hRl := R4.out.lt
    have wz : True := trivial
    by_cases z1 : y.2 = 0
    · have y1 : (y.2 != 0) = false := by simpa using z1
      cases z2 : smallE (q : Nat) with
      | false =>
        rw [z2] at hqs
        have hqs : decide (2147483647 < (q : Int)) = true := hqs
        have HG : Hid (getN b.data.toList = (0, .none, 6)) := Lib.hid (by rw [HgN.out, if_pos (.inr z2)])
        clear z1 z2
        go_wp2_with fail
        (try rw [hw4])
        change bodyPost _ _ _ _ _ (setNine w4 w.heap.size (.int .i64 0) (.int .i64 0) (.int .i64 0) (.string ⟨#[]⟩) (.int .i64 0) (.slice none 0 0) (.int .i64 0) (.int .i64 0) (.int .i64 0))
        have hB9 := blk_nine R4.out (.int .i64 0) (.int .i64 0) (.int .i64 0) (.string ⟨#[]⟩) (.int .i64 0) (.slice none 0 0) (.int .i64 0) (.int .i64 0) (.int .i64 0)
        have hW9 := below_nine W4.out (Nat.le_refl w.heap.size) (.int .i64 0) (.int .i64 0) (.int .i64 0) (.string ⟨#[]⟩) (.int .i64 0) (.slice none 0 0) (.int .i64 0) (.int .i64 0) (.int .i64 0)
        generalize setNine w4 w.heap.size (.int .i64 0) (.int .i64 0) (.int .i64 0) (.string ⟨#[]⟩) (.int .i64 0) (.slice none 0 0) (.int .i64 0) (.int .i64 0) (.int .i64 0) = WE at hB9 hW9 ⊢
        have hcell := hB9.cell; have hfree := hB9.free; have hlt9 := hB9.lt
        clear hcR hfR hcM hRl
        refine bodyPost_ret (v := .tuple #[.agg #[.int .i64 0, .int .i64 0, .int .i64 0, .string ⟨#[]⟩, .int .i64 0, .slice none 0 0, .int .i64 0, .int .i64 0, .int .i64 0], .int .i64 6]) ?_ rfl ?_
        · simp [results, Try.results12, go_sem, hcell, hfree, hlt9]
        · rw [HG.out]
          exact ⟨none, 0, 0, rfl, World.ownsRow_nil _ _ _ _, hW9⟩
      | true =>
        rw [z2] at hqs
        have hqs : decide (2147483647 < (q : Int)) = false := hqs
        have HG : Hid (getN b.data.toList = (((q : Nat) : Int), y.1, 0)) := Lib.hid (by rw [HgN.out, if_neg (by rintro (h | h); exact h z1; rw [z2] at h; cases h)])
        clear z1 z2
        go_wp2_with fail
        (try rw [hw4])
        change bodyPost _ _ _ _ _ (setNine w4 w.heap.size (.int .i64 (q : Nat)) (.int .i64 y.1.k) (.int .i64 y.1.t) (.string y.1.s) (.int .i64 y.1.x) (.slice A n cap) (.int .i64 y.1.m0) (.int .i64 y.1.m1) (.int .i64 y.1.m2))
        have hB9 := blk_nine R4.out (.int .i64 (q : Nat)) (.int .i64 y.1.k) (.int .i64 y.1.t) (.string y.1.s) (.int .i64 y.1.x) (.slice A n cap) (.int .i64 y.1.m0) (.int .i64 y.1.m1) (.int .i64 y.1.m2)
        have hW9 := below_nine W4.out (Nat.le_refl w.heap.size) (.int .i64 (q : Nat)) (.int .i64 y.1.k) (.int .i64 y.1.t) (.string y.1.s) (.int .i64 y.1.x) (.slice A n cap) (.int .i64 y.1.m0) (.int .i64 y.1.m1) (.int .i64 y.1.m2)
        have hO9 := own_nine (g := w.heap.size) O4.out (fun e => by have := (O4.out.lt _ e).1; omega) (.int .i64 (q : Nat)) (.int .i64 y.1.k) (.int .i64 y.1.t) (.string y.1.s) (.int .i64 y.1.x) (.slice A n cap) (.int .i64 y.1.m0) (.int .i64 y.1.m1) (.int .i64 y.1.m2)
        generalize setNine w4 w.heap.size (.int .i64 (q : Nat)) (.int .i64 y.1.k) (.int .i64 y.1.t) (.string y.1.s) (.int .i64 y.1.x) (.slice A n cap) (.int .i64 y.1.m0) (.int .i64 y.1.m1) (.int .i64 y.1.m2) = WE at hB9 hW9 hO9 ⊢
        have hcell := hB9.cell; have hfree := hB9.free; have hlt9 := hB9.lt
        clear hcR hfR hcM hRl
        refine bodyPost_ret (v := .tuple #[.agg #[.int .i64 (q : Nat), .int .i64 y.1.k, .int .i64 y.1.t, .string y.1.s, .int .i64 y.1.x, .slice A n cap, .int .i64 y.1.m0, .int .i64 y.1.m1, .int .i64 y.1.m2], .int .i64 0]) ?_ rfl ?_
        · simp [results, Try.results12, go_sem, hcell, hfree, hlt9]
        · rw [HG.out]
          exact ⟨A, n, cap, rfl, own_baseE hO9 (by omega), hW9⟩
    · have y1 : (y.2 != 0) = true := by simpa using z1
      have HG : Hid (getN b.data.toList = (0, .none, 6)) := Lib.hid (by rw [HgN.out, if_pos (.inl z1)])
      clear z1 hqs
      go_wp2_with fail
      (try rw [hw4])
      change bodyPost _ _ _ _ _ (setNine w4 w.heap.size (.int .i64 0) (.int .i64 0) (.int .i64 0) (.string ⟨#[]⟩) (.int .i64 0) (.slice none 0 0) (.int .i64 0) (.int .i64 0) (.int .i64 0))
      have hB9 := blk_nine R4.out (.int .i64 0) (.int .i64 0) (.int .i64 0) (.string ⟨#[]⟩) (.int .i64 0) (.slice none 0 0) (.int .i64 0) (.int .i64 0) (.int .i64 0)
      have hW9 := below_nine W4.out (Nat.le_refl w.heap.size) (.int .i64 0) (.int .i64 0) (.int .i64 0) (.string ⟨#[]⟩) (.int .i64 0) (.slice none 0 0) (.int .i64 0) (.int .i64 0) (.int .i64 0)
      generalize setNine w4 w.heap.size (.int .i64 0) (.int .i64 0) (.int .i64 0) (.string ⟨#[]⟩) (.int .i64 0) (.slice none 0 0) (.int .i64 0) (.int .i64 0) (.int .i64 0) = WE at hB9 hW9 ⊢
      have hcell := hB9.cell; have hfree := hB9.free; have hlt9 := hB9.lt
      clear hcR hfR hcM hRl
      refine bodyPost_ret (v := .tuple #[.agg #[.int .i64 0, .int .i64 0, .int .i64 0, .string ⟨#[]⟩, .int .i64 0, .slice none 0 0, .int .i64 0, .int .i64 0, .int .i64 0], .int .i64 6]) ?_ rfl ?_
      · simp [results, Try.results12, go_sem, hcell, hfree, hlt9]
      · rw [HG.out]
        exact ⟨none, 0, 0, rfl, World.ownsRow_nil _ _ _ _, hW9⟩
end Go.Proofs.Ytnnnilpgnjndlaa
