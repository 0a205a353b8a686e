/- chapter 22: the document's GetEntry (printed by mkshipent.py). -/
import Derived.Test.YtnnnilpgnjndlaaCShipBytesShipEnt3
import Derived.Test.YtnnnilpgnjndlaaCShipBytesShipEnt2
import Derived.Test.YtnnnilpgnjndlaaCShipBytesRefGet
import Derived.Deep.RegionLaw

namespace Go.Proofs.Ytnnnilpgnjndlaa
open Go.RowKit
set_option maxHeartbeats 4000000
set_option maxRecDepth 100000
set_option linter.unusedVariables false
attribute [local go_sem] run_store_flt

theorem refGetEntry_any (b : ByteArray) (w : World) (hb : b.size ≤ 100000) :
    Calls Try.prog 13 #[.string b] w fun y w' => ∃ A n cap, y = .returned (.tuple #[.int .i64 (getN b.data.toList).1, .agg #[.int .i64 (getN b.data.toList).2.1.k, .int .i64 (getN b.data.toList).2.1.t, .string (getN b.data.toList).2.1.s, .int .i64 (getN b.data.toList).2.1.x, .slice A n cap, .int .i64 (getN b.data.toList).2.1.m0, .int .i64 (getN b.data.toList).2.1.m1, .int .i64 (getN b.data.toList).2.1.m2], .int .i64 (getN b.data.toList).2.2]) ∧
      w'.ownsRow w.heap.size 57 4 (.slice A n cap) n (evVs (getN b.data.toList).2.1.es) ∧ Below w.heap.size w w' := by
  have hsl := size_list b
  obtain ⟨W0, hW0⟩ : ∃ W0, w.alloc (.cells #[.int .i64 0, .int .i64 0, .string ⟨#[]⟩, .int .i64 0, .slice none 0 0, .int .i64 0, .int .i64 0, .int .i64 0] 26) = W0 := ⟨_, rfl⟩
  have hR : BlkIs W0 w.heap.size 26 #[.int .i64 0, .int .i64 0, .string ⟨#[]⟩, .int .i64 0, .slice none 0 0, .int .i64 0, .int .i64 0, .int .i64 0] := by rw [← hW0]; exact BlkIs.new _ _ _
  have hb0 : Below w.heap.size w W0 := by rw [← hW0]; exact (Below.refl _ _).alloc (Nat.le_refl _) _
  have R0 := Lib.hid hR; have W0' := Lib.hid hb0
  by_cases h4 : b.size < 4
  · have d4 : decide ((b.size : Int) < 4) = true := decide_eq_true (by omega)
    have HG : Hid (getN b.data.toList = (0, .none, 5)) := Lib.hid (getN_short (by rw [← hsl]; exact h4))
    have hcR := hR.cell; have hfR := hR.free; have hRl := hR.lt
    clear hR hb0 h4 hsl
    go_enter Try.func13, Try.ntmps13
    go_wp2_with fail
    (try rw [hW0])
    change bodyPost _ _ _ _ _ (setEight W0 w.heap.size (.int .i64 0) (.int .i64 0) (.string ⟨#[]⟩) (.int .i64 0) (.slice none 0 0) (.int .i64 0) (.int .i64 0) (.int .i64 0))
    have hB9 := blk_eight R0.out (.int .i64 0) (.int .i64 0) (.string ⟨#[]⟩) (.int .i64 0) (.slice none 0 0) (.int .i64 0) (.int .i64 0) (.int .i64 0)
    have hW9 := below_eight W0'.out (Nat.le_refl w.heap.size) (.int .i64 0) (.int .i64 0) (.string ⟨#[]⟩) (.int .i64 0) (.slice none 0 0) (.int .i64 0) (.int .i64 0) (.int .i64 0)
    generalize setEight W0 w.heap.size (.int .i64 0) (.int .i64 0) (.string ⟨#[]⟩) (.int .i64 0) (.slice none 0 0) (.int .i64 0) (.int .i64 0) (.int .i64 0) = WE at hB9 hW9 ⊢
    have hcell := hB9.cell; have hfree := hB9.free; have hlt9 := hB9.lt
    clear hcR hfR hRl
    refine bodyPost_ret (v := .tuple #[.int .i64 0, .agg #[.int .i64 0, .int .i64 0, .string ⟨#[]⟩, .int .i64 0, .slice none 0 0, .int .i64 0, .int .i64 0, .int .i64 0], .int .i64 5]) ?_ rfl ?_
    · simp [results, Try.results13, go_sem, hcell, hfree, hlt9]
    · rw [HG.out]
      exact ⟨none, 0, 0, rfl, World.ownsRow_nil _ _ _ _, hW9⟩
  · have d4 : decide ((b.size : Int) < 4) = false := decide_eq_false (by omega)
    have d5 : (4 : Int) ≤ (b.size : Int) := by omega
    have hn4 : ¬ b.data.toList.length < 4 := by rw [← hsl]; exact h4
    have hx : b.extract 4 b.size = ⟨(b.data.toList.drop 4).toArray⟩ := str_from b 4
    have hx0 : b.extract 0 4 = ⟨(b.data.toList.take 4).toArray⟩ := str_to b 4
    obtain ⟨q, hq⟩ : ∃ q, beVal (b.data.toList.take 4) = q := ⟨_, rfl⟩
    obtain ⟨y, hy⟩ : ∃ y, getC (b.data.toList.drop 4) = y := ⟨_, rfl⟩
    have hgN : getN b.data.toList = if y.2 ≠ 0 ∨ smallE (q : Nat) = false then (0, .none, 6) else (((q : Nat) : Int), y.1, 0) := by unfold getN; rw [if_neg hn4, hy, hq]
    have hg : ∀ w, Calls Try.prog 37 #[.string (b.extract 4 b.size)] w fun e w' => ∃ A n cap, e = .returned (.tuple #[.agg #[.int .i64 y.1.k, .int .i64 y.1.t, .string y.1.s, .int .i64 y.1.x, .slice A n cap, .int .i64 y.1.m0, .int .i64 y.1.m1, .int .i64 y.1.m2], .int .i64 y.2]) ∧ w'.ownsRow w.heap.size 57 4 (.slice A n cap) n (evVs y.1.es) ∧ Below w.heap.size w w' := fun w => by
      have := refGet_any (b.extract 4 b.size) w (by rw [hx, size_mk, List.length_drop]; omega)
      rw [hx] at this ⊢
      rw [show (⟨(b.data.toList.drop 4).toArray⟩ : ByteArray).data.toList = b.data.toList.drop 4 from rfl, hy] at this
      exact this
    have htl : (b.data.toList.take 4).length = 4 := by rw [List.length_take]; omega
    have hit : inTake 4 (b.data.toList.take 4) 0 = (b.data.toList.take 4, [], 0) := by
      have := inTake_app (b.data.toList.take 4) [] 4 htl
      rwa [List.append_nil] at this
    have hqlt : q < 4294967296 := by
      have := inNum_lt 4 (b.data.toList.take 4) 0
      unfold inNum at this
      rw [hit] at this
      dsimp only at this
      rw [hq] at this
      omega
    have hU := fun (g base : Nat) (w : World) (h : RinQ w base g (b.data.toList.take 4) 0) => refNumQ g base 4 _ _ w h (by omega)
    rw [hit] at hU
    dsimp only at hU
    rw [hq] at hU
    have wq : wrap64 ((q : Nat) : Int) = (q : Int) := IntWalk.wrap64_in _ (by omega)
    have hsm := fun w => smallE_any ((q : Nat) : Int) w
    obtain ⟨S4, hS4⟩ : ∃ s, b.extract 0 4 = s := ⟨_, rfl⟩
    obtain ⟨W1, hW1⟩ : ∃ W1, W0.alloc (.cells #[.string S4, .int .i64 0] 78) = W1 := ⟨_, rfl⟩
    have hb1 : Below W0.heap.size W0 W1 := by rw [← hW1]; exact (Below.refl _ _).alloc (Nat.le_refl _) _
    have hi1 : RinQ W1 W0.heap.size W0.heap.size (b.data.toList.take 4) 0 := ⟨_, by rw [← hW1, ← hS4, hx0]; exact RinIs.new W0 (b.data.toList.take 4), by omega, fun _ => rfl⟩
    have hgr : w.heap.size < W0.heap.size := hR.lt
    have R1 := Lib.hid (hR.below hb1 hR.lt); have W1' := Lib.hid (hb0.trans (hb1.mono hb0.size)); have I1 := Lib.hid hi1
    have HgN := Lib.hid hgN; have Hg := Lib.hid hg; have HU := Lib.hid hU; have Hsm := Lib.hid hsm
    clear hR hb0 hx hx0 hy hgN hg hq hn4 hsl htl hit hqlt hU hsm hb1 hi1
    go_enter Try.func13, Try.ntmps13
    go_wp2_with fail
    (try rw [hW0])
    (try rw [hS4])
    (try rw [hW1])
    refine (HU.out W0.heap.size W0.heap.size _ I1.out).mono ?_
    rintro e w2 ⟨rfl, hi2, hb2⟩
    have R2 := Lib.hid (R1.out.keptBy hb2 (by omega)); have W2 := Lib.hid (W1'.out.grown hb2 (by exact W1'.out.size) (fun q hq => by injection hq with hq; omega))
    clear hi2 hb2 hW0 hW1
    go_wp2_with fail
    refine (Hg.out _).mono ?_
    rintro e w3 ⟨A, n, cap, rfl, hown3, hb3⟩
    have R3 := Lib.hid (R2.out.below hb3 R2.out.lt); have W3 := Lib.hid (W2.out.trans (hb3.mono W2.out.size)); have O3 := Lib.hid hown3
    have hw2 : w.heap.size < w2.heap.size := R2.out.lt
    clear hown3 hb3
    obtain ⟨w4, hw4⟩ : ∃ V, w3.alloc (.cells #[.int .i64 y.1.k, .int .i64 y.1.t, .string y.1.s, .int .i64 y.1.x, .slice A n cap, .int .i64 y.1.m0, .int .i64 y.1.m1, .int .i64 y.1.m2] 26) = V := ⟨_, rfl⟩
    have hb4 : Below w3.heap.size w3 w4 := by rw [← hw4]; exact (Below.refl _ _).alloc (Nat.le_refl _) _
    have hM4 : BlkIs w4 w3.heap.size 26 #[.int .i64 y.1.k, .int .i64 y.1.t, .string y.1.s, .int .i64 y.1.x, .slice A n cap, .int .i64 y.1.m0, .int .i64 y.1.m1, .int .i64 y.1.m2] := by rw [← hw4]; exact BlkIs.new _ _ _
    have R4 := Lib.hid (R3.out.below hb4 R3.out.lt); have W4 := Lib.hid (W3.out.trans (hb4.mono W3.out.size)); have O4 := Lib.hid (own_below O3.out hb4 (fun q hq => (O3.out.lt q hq).2))
    have hcM := hM4.cell
    have hcR := R4.out.cell; have hfR := R4.out.free; have hRl := R4.out.lt
    by_cases z1 : y.2 = 0
    · have y1 : (y.2 != 0) = false := by simpa using z1
      cases z2 : smallE (q : Nat) with
      | false =>
        have HG : Hid (getN b.data.toList = (0, .none, 6)) := Lib.hid (by rw [HgN.out, if_pos (.inr z2)])
        have Hsm := Lib.hid (fun w => by have := Hsm.out w; rw [z2] at this; exact this)
        clear z1 z2
        go_wp2_with fail
        (try rw [hw4])
        (try rw [wq])
        refine (Hsm.out _).mono ?_
        rintro e w5 ⟨rfl, rfl⟩
        go_wp2_with fail
        change bodyPost _ _ _ _ _ (setEight w4 w.heap.size (.int .i64 0) (.int .i64 0) (.string ⟨#[]⟩) (.int .i64 0) (.slice none 0 0) (.int .i64 0) (.int .i64 0) (.int .i64 0))
        have hB9 := blk_eight R4.out (.int .i64 0) (.int .i64 0) (.string ⟨#[]⟩) (.int .i64 0) (.slice none 0 0) (.int .i64 0) (.int .i64 0) (.int .i64 0)
        have hW9 := below_eight W4.out (Nat.le_refl w.heap.size) (.int .i64 0) (.int .i64 0) (.string ⟨#[]⟩) (.int .i64 0) (.slice none 0 0) (.int .i64 0) (.int .i64 0) (.int .i64 0)
        generalize setEight w4 w.heap.size (.int .i64 0) (.int .i64 0) (.string ⟨#[]⟩) (.int .i64 0) (.slice none 0 0) (.int .i64 0) (.int .i64 0) (.int .i64 0) = WE at hB9 hW9 ⊢
        have hcell := hB9.cell; have hfree := hB9.free; have hlt9 := hB9.lt
        clear hcR hfR hcM hRl
        refine bodyPost_ret (v := .tuple #[.int .i64 0, .agg #[.int .i64 0, .int .i64 0, .string ⟨#[]⟩, .int .i64 0, .slice none 0 0, .int .i64 0, .int .i64 0, .int .i64 0], .int .i64 6]) ?_ rfl ?_
        · simp [results, Try.results13, go_sem, hcell, hfree, hlt9]
        · rw [HG.out]
          exact ⟨none, 0, 0, rfl, World.ownsRow_nil _ _ _ _, hW9⟩
      | true =>
        have HG : Hid (getN b.data.toList = (((q : Nat) : Int), y.1, 0)) := Lib.hid (by rw [HgN.out, if_neg (by rintro (h | h); exact h z1; rw [z2] at h; cases h)])
        have Hsm := Lib.hid (fun w => by have := Hsm.out w; rw [z2] at this; exact this)
        clear z1 z2
        go_wp2_with fail
        (try rw [hw4])
        (try rw [wq])
        refine (Hsm.out _).mono ?_
        rintro e w5 ⟨rfl, rfl⟩
        go_wp2_with fail
        go_region_law (fail)
        all_goals
          go_wp2_with fail
          change bodyPost _ _ _ _ _ (World.drew (setEight w4 w.heap.size (.int .i64 y.1.k) (.int .i64 y.1.t) (.string y.1.s) (.int .i64 y.1.x) (.slice A n cap) (.int .i64 y.1.m0) (.int .i64 y.1.m1) (.int .i64 y.1.m2)))
          have hB9 := (blk_eight R4.out (.int .i64 y.1.k) (.int .i64 y.1.t) (.string y.1.s) (.int .i64 y.1.x) (.slice A n cap) (.int .i64 y.1.m0) (.int .i64 y.1.m1) (.int .i64 y.1.m2)).drew
          have hW9 := (below_eight W4.out (Nat.le_refl w.heap.size) (.int .i64 y.1.k) (.int .i64 y.1.t) (.string y.1.s) (.int .i64 y.1.x) (.slice A n cap) (.int .i64 y.1.m0) (.int .i64 y.1.m1) (.int .i64 y.1.m2)).drew
          have hO9 := own_drew (own_eight (g := w.heap.size) O4.out (fun e => by have := (O4.out.lt _ e).1; omega) (.int .i64 y.1.k) (.int .i64 y.1.t) (.string y.1.s) (.int .i64 y.1.x) (.slice A n cap) (.int .i64 y.1.m0) (.int .i64 y.1.m1) (.int .i64 y.1.m2))
          generalize World.drew (setEight w4 w.heap.size (.int .i64 y.1.k) (.int .i64 y.1.t) (.string y.1.s) (.int .i64 y.1.x) (.slice A n cap) (.int .i64 y.1.m0) (.int .i64 y.1.m1) (.int .i64 y.1.m2)) = WE at hB9 hW9 hO9 ⊢
          have hcell := hB9.cell; have hfree := hB9.free; have hlt9 := hB9.lt
          clear hcR hfR hcM hRl
          refine bodyPost_ret (v := .tuple #[.int .i64 (q : Nat), .agg #[.int .i64 y.1.k, .int .i64 y.1.t, .string y.1.s, .int .i64 y.1.x, .slice A n cap, .int .i64 y.1.m0, .int .i64 y.1.m1, .int .i64 y.1.m2], .int .i64 0]) ?_ rfl ?_
          · simp [results, Try.results13, Act.put, go_sem, hcell, hfree, hlt9]
          · rw [HG.out]
            exact ⟨A, n, cap, rfl, own_baseE hO9 (by omega), hW9⟩
    · have y1 : (y.2 != 0) = true := by simpa using z1
      have HG : Hid (getN b.data.toList = (0, .none, 6)) := Lib.hid (by rw [HgN.out, if_pos (.inl z1)])
      clear z1
      go_wp2_with fail
      (try rw [hw4])
      change bodyPost _ _ _ _ _ (setEight w4 w.heap.size (.int .i64 0) (.int .i64 0) (.string ⟨#[]⟩) (.int .i64 0) (.slice none 0 0) (.int .i64 0) (.int .i64 0) (.int .i64 0))
      have hB9 := blk_eight R4.out (.int .i64 0) (.int .i64 0) (.string ⟨#[]⟩) (.int .i64 0) (.slice none 0 0) (.int .i64 0) (.int .i64 0) (.int .i64 0)
      have hW9 := below_eight W4.out (Nat.le_refl w.heap.size) (.int .i64 0) (.int .i64 0) (.string ⟨#[]⟩) (.int .i64 0) (.slice none 0 0) (.int .i64 0) (.int .i64 0) (.int .i64 0)
      generalize setEight w4 w.heap.size (.int .i64 0) (.int .i64 0) (.string ⟨#[]⟩) (.int .i64 0) (.slice none 0 0) (.int .i64 0) (.int .i64 0) (.int .i64 0) = WE at hB9 hW9 ⊢
      have hcell := hB9.cell; have hfree := hB9.free; have hlt9 := hB9.lt
      clear hcR hfR hcM hRl
      refine bodyPost_ret (v := .tuple #[.int .i64 0, .agg #[.int .i64 0, .int .i64 0, .string ⟨#[]⟩, .int .i64 0, .slice none 0 0, .int .i64 0, .int .i64 0, .int .i64 0], .int .i64 6]) ?_ rfl ?_
      · simp [results, Try.results13, go_sem, hcell, hfree, hlt9]
      · rw [HG.out]
        exact ⟨none, 0, 0, rfl, World.ownsRow_nil _ _ _ _, hW9⟩
end Go.Proofs.Ytnnnilpgnjndlaa
