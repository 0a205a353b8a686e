/- chapter 12: the first call. -/
import Derived.Test.YtgaeoglhammjiaaTabLast
namespace Go.Proofs.Ytgaeoglhammjiaa
open Go.RowKit
set_option maxHeartbeats 2000000
set_option maxRecDepth 100000
set_option linter.unusedVariables false

/-- the tab that a law made: its blocks are new, and what was there is as it was -/
structure TabAt (W w : World) (T : Nat) (r : Option Nat) (l : List En) : Prop where
  is : TabIs w W.heap.size T r l
  lo : W.heap.size ≤ T
  bel : Below W.heap.size W w
section
variable {W w w' : World} {T : Nat} {r r' : Option Nat} {l l' : List En}
theorem TabIs.row_lt {base : Nat} (h : TabIs w base T r l) : ∀ q, r = some q → base ≤ q ∧ q < w.heap.size := by
  obtain ⟨v, h1, h2, h3, h4⟩ := h
  intro q hq
  exact h2.lt q (h3.trans hq)
theorem TabIs.lt {base : Nat} (h : TabIs w base T r l) : T < w.heap.size := by obtain ⟨v, h1, _⟩ := h; exact h1.lt
theorem TabAt.step (h : TabAt W w T r l) (hi : TabIs w' W.heap.size T r' l') (hs : TabStep w w' T r r') : TabAt W w' T r' l' := by
  have h1 : Below W.heap.size w w' := ⟨hs.os, hs.tape, hs.output, hs.size, fun k hk => hs.block k (Nat.lt_of_lt_of_le hk h.bel.size) (by have := h.lo; omega) (by
    intro e
    have := (h.is.row_lt k e.symm).1
    omega)⟩
  exact ⟨hi, h.lo, h.bel.trans h1⟩
theorem TabAt.under (h : TabAt W w T r l) (hb : Below w.heap.size w w') : TabAt W w' T r l := ⟨h.is.below hb, h.lo, h.bel.trans (hb.mono h.bel.size)⟩
end

/-- entries laid in a new block -/
theorem sl_en (w : World) (ps : List En) (cs : Array Value) (h : cs.toList = enVs ps) : SlR (w.alloc (.cells cs 26)) (w.heap.size + 1) 3 (some ⟨w.heap.size, 0, none⟩) ps.length (enVs ps) := by
  have := SlR.new (n := ps.length) (size := 3) w w.heap.size rfl 26 cs (by rw [h, enVs_length])
  rw [h] at this
  exact this

/-- entries added that lie in a new block -/
theorem add_new {W w : World} {T : Nat} {r : Option Nat} {l : List En} (h : TabAt W w T r l) (hs : SortedE l) (ps : List En) (cs : Array Value) (hcs : cs.toList = enVs ps) (n c : Nat) (hn : n = ps.length) (hl : l.length + n ≤ 1000000) :
    Calls Try.prog 9 #[.pointer (some ⟨T, 0, none⟩), .slice (some ⟨w.heap.size, 0, none⟩) n c] (w.alloc (.cells cs 26)) fun x w' => x = .returned (.int .i64 (((addsE l ps).length : Int) - (l.length : Int))) ∧ ∃ r', TabAt W w' T r' (addsE l ps) := by
  subst hn
  have hb : Below w.heap.size w (w.alloc (.cells cs 26)) := (Below.refl _ _).alloc (Nat.le_refl _) _
  have h1 := h.under hb
  refine (add_any W.heap.size T r l ps (some ⟨w.heap.size, 0, none⟩) ps.length c _ h1.is hs (by have := sl_en w ps cs hcs; simpa using this) ?_ (by have := h.bel.size; simp; omega) hl).mono ?_
  · rintro _ ad e
    injection e with e
    subst e
    refine ⟨Ne.symm (Nat.ne_of_lt h.is.lt), fun e => ?_⟩
    exact Nat.lt_irrefl _ (h.is.row_lt _ e.symm).2
  · rintro x w' ⟨rfl, r', hi, hst⟩
    exact ⟨rfl, r', h1.step hi hst⟩

theorem alive12_any (W : World) : Calls Try.prog 7 #[] W fun e w' => e = .returned (.bool true) ∧ Below W.heap.size W w' := by
  have e1 : addsE [] [(5, 1, 7), (5, 0, 3)] = [(5, 0, 3), (5, 1, 7)] := by decide
  have e2 : lastE [(5, 0, 3), (5, 1, 7)] 5 = some (5, 1, 7) := by decide
  have hcs : (#[.int .i64 5, .int .i64 1, .int .i64 7, .int .i64 5, .int .i64 0, .int .i64 3] : Array Value).toList = enVs [(5, 1, 7), (5, 0, 3)] := rfl
  have E1 := Lib.hid e1; have E2 := Lib.hid e2; have Hcs := Lib.hid hcs
  clear e1 e2 hcs
  go_enter Try.func7, Try.ntmps7
  go_wp2_with fail
  refine (new_any _).mono ?_
  rintro e w1 ⟨rfl, hn1, hb1⟩
  have N1 : TabAt W w1 W.heap.size none [] := ⟨hn1 _, Nat.le_refl _, hb1⟩
  clear hn1 hb1
  go_wp2_with fail
  refine (add_new N1 List.Pairwise.nil [(5, 1, 7), (5, 0, 3)] _ Hcs.out _ _ rfl (by simp)).mono ?_
  rw [E1.out]
  rintro e w2 ⟨rfl, r2, N2⟩
  go_wp2_with fail
  refine (last_any _ _ _ _ 5 _ N2.is (by simp)).mono ?_
  rw [E2.out]
  rintro e w3 ⟨rfl, hb3⟩
  have N3 := N2.under hb3
  unfold enA
  dsimp only [Option.getD_some, Option.isSome_some]
  go_wp2_with fail
  have N4 := N3.under ((Below.refl w3.heap.size w3).alloc (Nat.le_refl _) (.cells #[.int .i64 5, .int .i64 1, .int .i64 7] 26))
  refine (len_any _ _ _ _ _ N4.is (by simp)).mono ?_
  rintro e w4 ⟨rfl, rfl⟩
  go_wp2_with fail
  go_ret
  exact ⟨rfl, N4.bel⟩
end Go.Proofs.Ytgaeoglhammjiaa
