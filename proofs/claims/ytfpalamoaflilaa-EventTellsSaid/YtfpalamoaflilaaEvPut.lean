/- chapter 7: an event laid. -/
import Derived.Test.YtfpalamoaflilaaOutT
import Derived.Deep.RegionHeld3
namespace Go.Proofs.Ytfpalamoaflilaa
open Go.RowKit
set_option maxHeartbeats 4000000
set_option maxRecDepth 100000
set_option linter.unusedVariables false
attribute [local go_sem] run_store_flt

theorem evPut_any (g base : Nat) (id : Int) (ty da : ByteArray) (va : Nat) (bs : List UInt8) (w : World) (h : OutIs w base g bs 0) (hb : base ≤ w.heap.size) (hl : bs.length ≤ 1000000) (ht : ty.size ≤ 60) (hd : da.size ≤ 200) (hv : va < 18446744073709551616) :
    Calls Try.prog 41 #[.pointer (some ⟨g, 0, none⟩), .agg #[.int .i64 id, .string ty, .string da, .float .f64 va]] w fun e w' =>
      e = .returned (.tuple #[]) ∧ OutIs w' base g (bs ++ evL ⟨id, ty, da, va⟩) 0 ∧ OutStep base w w' := by
  obtain ⟨W, hW⟩ : ∃ W, w.alloc (.cells #[.int .i64 id, .string ty, .string da, .float .f64 va] 33) = W := ⟨_, rfl⟩
  have hb0 : Below w.heap.size w W := by rw [← hW]; exact (Below.refl _ _).alloc (Nat.le_refl _) _
  have hM : BlkIs W w.heap.size 33 #[.int .i64 id, .string ty, .string da, .float .f64 va] := by rw [← hW]; exact BlkIs.new _ _ _
  have h0 := (h.under hb0 (Nat.le_refl _)).drewd
  have hs0 : OutStep base w W := OutStep.of_below hb0 hb
  have hbW : base ≤ W.heap.size := Nat.le_trans hb hb0.size
  have hS0 : ∀ wx, OutStep base W wx → wx.cell? ⟨w.heap.size, 0, none⟩ = some (.int .i64 id) ∧ wx.cell? ⟨w.heap.size, 1, none⟩ = some (.string ty) ∧ wx.cell? ⟨w.heap.size, 2, none⟩ = some (.string da) ∧ wx.cell? ⟨w.heap.size, 3, none⟩ = some (.float .f64 va) := fun wx h => by
    have f := (hM.typ h (by decide) (by decide)).cell
    exact ⟨f 0, f 1, f 2, f 3⟩
  have hd0 : OutStep base W W.drew := OutStep.of_below (below_drewN (Below.refl W.heap.size W) 1) hbW
  have HS := Lib.hid hS0; have HO := Lib.hid h0; have H0 := Lib.hid hs0
  clear hS0 h0 hs0 hM h hb0
  have hS := HS.out _ (OutStep.refl base W)
  have HB := hd0
  have hS' := HS.out _ HB
  have hts := size_list ty
  have hds := size_list da
  go_enter Try.func41, Try.ntmps41
  go_wp2_with fail
  go_region_held3 (fun wx => wx.cell? ⟨w.heap.size, 0, none⟩ = some (.int .i64 id) ∧ wx.cell? ⟨w.heap.size, 1, none⟩ = some (.string ty) ∧ wx.cell? ⟨w.heap.size, 2, none⟩ = some (.string da) ∧ wx.cell? ⟨w.heap.size, 3, none⟩ = some (.float .f64 va)) (first | exact hS | exact hS' | go_keep) ((first
    | (go_at_call 43; refine (i64_t g base _ _ _ HO.out (by have := HB.bel.size; omega) (by omega)).mono ?_; rintro x wx ⟨rfl, ho, hb⟩; have HO := Lib.hid ho; have HB := HB.trans hb; have hS := HS.out _ HB)
    | (go_at_call 42; refine (text_t g base _ _ _ HO.out (by have := HB.bel.size; omega) (by omega) (by simp only [List.length_append, textL_length, be64_length]; omega)).mono ?_; rintro x wx ⟨rfl, ho, hb⟩; have HO := Lib.hid ho; have HB := HB.trans hb; have hS := HS.out _ HB)
    | (go_at_call 67; refine (f64_t g base _ _ _ HO.out (by have := HB.bel.size; omega) (by simp only [List.length_append, textL_length, be64_length]; omega) hv).mono ?_; rintro x wx ⟨rfl, ho, hb⟩; have HO := Lib.hid ho; have HB := HB.trans hb; have hS := HS.out _ HB)))
  all_goals
    go_wp2_with fail
    go_end0
    refine ⟨rfl, ?_, H0.out.trans HB⟩
    have ho := HO.out
    simp only [List.append_assoc] at ho
    exact ho
end Go.Proofs.Ytfpalamoaflilaa
