/- chapter 7: a number read, an event read. -/
import Derived.Test.YtfpalamoaflilaaEvRow
import Derived.Test.YtfpalamoaflilaaTextG
import Derived.Test.YtfpalamoaflilaaInG64
import Derived.Laws.Externs
namespace Go.Proofs.Ytfpalamoaflilaa
open Go.RowKit
set_option maxHeartbeats 4000000
set_option maxRecDepth 100000
set_option linter.unusedVariables false
attribute [local go_sem] run_store_flt

theorem nanB_orderG (v : Nat) : (FloatKind.f64.format.order v v != some .eq) = nanB v := rfl
theorem run_frombits (v : Nat) (w : World) : (callFunc 65 #[.int .u64 (v : Int)]).run Try.prog w = .ok (.value (.float .f64 v)) w := by
  rw [run_callFunc_extern Try.func65 (by kernel_rfl) (by kernel_rfl) (by kernel_rfl) (e := Extern.MathFloatBits.float64frombits) (by kernel_rfl)]
  rfl
theorem run_fromnan (w : World) : (callFunc 65 #[.int .u64 9221120237041090560]).run Try.prog w = .ok (.value (.float .f64 9221120237041090560)) w := run_frombits 9221120237041090560 w

theorem inF64G (g base : Nat) (bs : List UInt8) (x : Int) (w : World) (h : InIs w base g bs x) (hl : bs.length ≤ 1000000000) :
    Calls Try.prog 74 #[.pointer (some ⟨g, 0, none⟩)] w fun e w' =>
      e = .returned (.float .f64 (canB (beVal (inTake 8 bs x).1))) ∧ InIs w' base g (inTake 8 bs x).2.1 (inTake 8 bs x).2.2 ∧ w.grownBy w' (some g) := by
  have ht := inU64G g base bs x w h hl
  unfold inNum at ht
  generalize inTake 8 bs x = q at ht ⊢
  generalize beVal q.1 = v at ht ⊢
  have Ht := Lib.hid ht; clear ht h
  have hno := nanB_orderG v
  cases hq : nanB v with
  | true =>
    rw [hq] at hno
    have hc : canB v = 9221120237041090560 := by unfold canB; rw [if_pos hq]
    rw [hc]
    clear hc hq
    go_enter Try.func74, Try.ntmps74
    go_wp2_with fail
    refine Ht.out.mono ?_
    rintro e w1 ⟨rfl, h1, hb1⟩
    have H1 := Lib.hid h1; clear h1
    go_wp2_with (first | simp only [run_fromnan] | simp only [run_frombits])
    go_ret
    exact ⟨rfl, H1.out, hb1⟩
  | false =>
    rw [hq] at hno
    have hc : canB v = v := by unfold canB; rw [hq]; rfl
    rw [hc]
    clear hc hq
    go_enter Try.func74, Try.ntmps74
    go_wp2_with fail
    refine Ht.out.mono ?_
    rintro e w1 ⟨rfl, h1, hb1⟩
    have H1 := Lib.hid h1; clear h1
    go_wp2_with (simp only [run_frombits])
    go_ret
    exact ⟨rfl, H1.out, hb1⟩

/-- a struct of four cells stored whole -/
def setFour (w : World) (g : Nat) (d0 d1 d2 d3 : Value) : World := (((w.setCell ⟨g, 0, none⟩ d0).setCell ⟨g, 1, none⟩ d1).setCell ⟨g, 2, none⟩ d2).setCell ⟨g, 3, none⟩ d3
theorem blk_four {w : World} {g : Nat} {t : TypeId} {c0 c1 c2 c3 : Value} (h : BlkIs w g t #[c0, c1, c2, c3]) (d0 d1 d2 d3 : Value) : BlkIs (setFour w g d0 d1 d2 d3) g t #[d0, d1, d2, d3] := (((h.put 0 d0).put 1 d1).put 2 d2).put 3 d3
theorem grown_new {a w : World} {row : Option Nat} {g : Nat} (h : a.grownBy w row) (hg : a.heap.size ≤ g) (i : Nat) (u : Value) : a.grownBy (w.setCell ⟨g, i, none⟩ u) row :=
  ⟨h.os, h.tape, h.output, by simpa [World.setCell] using h.size, fun k hk hne => (Below.heap_setCell w ⟨g, i, none⟩ u k (by show k ≠ g; omega)).trans (h.block k hk hne)⟩
theorem grown_four {a w : World} {row : Option Nat} {g : Nat} (h : a.grownBy w row) (hg : a.heap.size ≤ g) (d0 d1 d2 d3 : Value) : a.grownBy (setFour w g d0 d1 d2 d3) row :=
  grown_new (grown_new (grown_new (grown_new h hg 0 d0) hg 1 d1) hg 2 d2) hg 3 d3
theorem InIs.far {w : World} {base g r i : Nat} {bs : List UInt8} {x : Int} (h : InIs w base g bs x) (hr : g ≠ r) (u : Value) : InIs (w.setCell ⟨r, i, none⟩ u) base g bs x := ⟨h.1, h.2.far (p := ⟨r, i, none⟩) hr u⟩
theorem inTake_few (n : Nat) (bs : List UInt8) (x : Int) : (inTake n bs x).2.1.length ≤ bs.length := by
  unfold inTake; split
  · exact Nat.le_refl _
  · split
    · exact Nat.le_refl _
    · simp only [List.length_drop]; omega
theorem inText_few (most : Nat) (bs : List UInt8) (x : Int) : (inText most bs x).2.1.length ≤ bs.length := by
  unfold inText; split
  · exact inTake_few 4 bs x
  · exact Nat.le_trans (inTake_few _ _ _) (inTake_few 4 bs x)
theorem rdEv_few (bs : List UInt8) (x : Int) : (rdEv bs x).2.1.length ≤ bs.length := by
  unfold rdEv
  exact Nat.le_trans (inTake_few _ _ _) (Nat.le_trans (inText_few _ _ _) (Nat.le_trans (inText_few _ _ _) (inTake_few _ _ _)))

theorem evGet_any (g base : Nat) (bs : List UInt8) (x : Int) (w : World) (h : InIs w base g bs x) (hl : bs.length ≤ 1000000000) :
    Calls Try.prog 51 #[.pointer (some ⟨g, 0, none⟩)] w fun e w' =>
      e = .returned (evA (rdEv bs x).1) ∧ InIs w' base g (rdEv bs x).2.1 (rdEv bs x).2.2 ∧ w.grownBy w' (some g) := by
  obtain ⟨a0, h0⟩ : ∃ a, inTake 8 bs x = a := ⟨_, rfl⟩
  obtain ⟨a1, h1⟩ : ∃ a, inText 60 a0.2.1 a0.2.2 = a := ⟨_, rfl⟩
  obtain ⟨a2, h2⟩ : ∃ a, inText 200 a1.2.1 a1.2.2 = a := ⟨_, rfl⟩
  obtain ⟨a3, h3⟩ : ∃ a, inTake 8 a2.2.1 a2.2.2 = a := ⟨_, rfl⟩
  have hrd : rdEv bs x = (⟨i64L a0.1, ⟨a1.1.toArray⟩, ⟨a2.1.toArray⟩, canB (beVal a3.1)⟩, a3.2.1, a3.2.2) := by unfold rdEv; simp only [h0, h1, h2, h3]
  have l0 : a0.2.1.length ≤ 1000000000 := by rw [← h0]; exact Nat.le_trans (inTake_few _ _ _) hl
  have l1 : a1.2.1.length ≤ 1000000000 := by rw [← h1]; exact Nat.le_trans (inText_few _ _ _) l0
  have l2 : a2.2.1.length ≤ 1000000000 := by rw [← h2]; exact Nat.le_trans (inText_few _ _ _) l1
  have U0 := fun (w : World) (h : InIs w base g bs x) => inI64G g base bs x w h hl
  have U1 := fun (w : World) (h : InIs w base g a0.2.1 a0.2.2) => inTextG g base 60 _ _ w h l0 (by omega)
  have U2 := fun (w : World) (h : InIs w base g a1.2.1 a1.2.2) => inTextG g base 200 _ _ w h l1 (by omega)
  have U3 := fun (w : World) (h : InIs w base g a2.2.1 a2.2.2) => inF64G g base _ _ w h l2
  rw [h0] at U0; rw [h1] at U1; rw [h2] at U2; rw [h3] at U3
  rw [hrd]
  unfold evA
  dsimp only
  obtain ⟨W, hW⟩ : ∃ W, w.alloc (.cells #[.int .i64 0, .string ⟨#[]⟩, .string ⟨#[]⟩, .float .f64 0] 33) = W := ⟨_, rfl⟩
  have hR : BlkIs W w.heap.size 33 #[.int .i64 0, .string ⟨#[]⟩, .string ⟨#[]⟩, .float .f64 0] := by rw [← hW]; exact BlkIs.new _ _ _
  have hb0 : w.grownBy W (some g) := by rw [← hW]; exact grown_below ((Below.refl _ _).alloc (Nat.le_refl _) _)
  have hI : InIs W base g bs x := by rw [← hW]; exact h.alloc _
  have hgw : g < w.heap.size := h.lt
  have HU0 := Lib.hid U0; have HU1 := Lib.hid U1; have HU2 := Lib.hid U2; have HU3 := Lib.hid U3
  have HR := Lib.hid hR; have G0 := Lib.hid hb0; have I0 := Lib.hid hI
  clear U0 U1 U2 U3 h0 h1 h2 h3 hrd l0 l1 l2 hR hb0 hI h hl
  go_enter Try.func51, Try.ntmps51
  go_wp2_with fail
  (try rw [hW])
  refine (HU0.out _ I0.out).mono ?_
  rintro y w1 ⟨rfl, hi, hb⟩
  have R1 := Lib.hid (HR.out.keptBy hb (by omega)); have G1 := Lib.hid (grown_two G0.out hb); have I1 := Lib.hid hi
  clear hb hi
  go_wp2_with fail
  refine (HU1.out _ I1.out).mono ?_
  rintro y w2 ⟨rfl, hi, hb⟩
  have R2 := Lib.hid (R1.out.keptBy hb (by omega)); have G2 := Lib.hid (grown_two G1.out hb); have I2 := Lib.hid hi
  clear hb hi
  go_wp2_with fail
  refine (HU2.out _ I2.out).mono ?_
  rintro y w3 ⟨rfl, hi, hb⟩
  have R3 := Lib.hid (R2.out.keptBy hb (by omega)); have G3 := Lib.hid (grown_two G2.out hb); have I3 := Lib.hid hi
  clear hb hi
  go_wp2_with fail
  refine (HU3.out _ I3.out).mono ?_
  rintro y w4 ⟨rfl, hi, hb⟩
  have R4 := Lib.hid (R3.out.keptBy hb (by omega)); have G4 := Lib.hid (grown_two G3.out hb); have I4 := Lib.hid hi
  clear hb hi
  have hcR := R4.out.cell; have hfR := R4.out.free; have hRl := R4.out.lt
  go_wp2_with fail
  change bodyPost _ _ _ _ _ (setFour w4 w.heap.size (.int .i64 (i64L a0.1)) (.string ⟨a1.1.toArray⟩) (.string ⟨a2.1.toArray⟩) (.float .f64 (canB (beVal a3.1))))
  have hB5 := blk_four R4.out (.int .i64 (i64L a0.1)) (.string ⟨a1.1.toArray⟩) (.string ⟨a2.1.toArray⟩) (.float .f64 (canB (beVal a3.1)))
  have hG5 := grown_four G4.out (Nat.le_refl _) (.int .i64 (i64L a0.1)) (.string ⟨a1.1.toArray⟩) (.string ⟨a2.1.toArray⟩) (.float .f64 (canB (beVal a3.1)))
  have hI5 : InIs (setFour w4 w.heap.size (.int .i64 (i64L a0.1)) (.string ⟨a1.1.toArray⟩) (.string ⟨a2.1.toArray⟩) (.float .f64 (canB (beVal a3.1)))) base g a3.2.1 a3.2.2 :=
    (((I4.out.far (by omega) _).far (by omega) _).far (by omega) _).far (by omega) _
  generalize setFour w4 w.heap.size (.int .i64 (i64L a0.1)) (.string ⟨a1.1.toArray⟩) (.string ⟨a2.1.toArray⟩) (.float .f64 (canB (beVal a3.1))) = W5 at hB5 hG5 hI5 ⊢
  have hcell := hB5.cell; have hfree := hB5.free; have hlt5 := hB5.lt
  clear hcR hfR hRl
  refine bodyPost_ret (v := .agg #[.int .i64 (i64L a0.1), .string ⟨a1.1.toArray⟩, .string ⟨a2.1.toArray⟩, .float .f64 (canB (beVal a3.1))]) ?_ rfl ⟨rfl, hI5, hG5⟩
  simp [results, Try.results51, go_sem, hcell, hfree, hlt5]
end Go.Proofs.Ytfpalamoaflilaa
