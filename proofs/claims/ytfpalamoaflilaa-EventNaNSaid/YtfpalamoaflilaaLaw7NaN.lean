/- chapter 7: EventNaN, walked. -/
import Derived.Test.YtfpalamoaflilaaEvNaN
import Derived.Test.YtfpalamoaflilaaEvEqual
import Derived.Test.YtfpalamoaflilaaEvAlive
import Derived.Test.YtfpalamoaflilaaEvLaw2
namespace Go.Proofs.Ytfpalamoaflilaa
open Go.RowKit
set_option maxHeartbeats 4000000
set_option maxRecDepth 100000
set_option linter.unusedVariables false
attribute [local go_sem] run_store_flt

theorem check_nan (i : Int) (v : Nat) : checkC ⟨1, 0, ⟨#[115]⟩, 0, [⟨i, ⟨#[116]⟩, ⟨#[]⟩, v⟩], 0, 0, 0⟩ = if 1 ≤ i then 0 else 1 := by
  have hv : validE ⟨i, ⟨#[116]⟩, ⟨#[]⟩, v⟩ = decide (1 ≤ i) := by
    unfold validE
    dsimp only
    rw [nameT, decide_eq_true (show (⟨#[]⟩ : ByteArray).size ≤ 200 by decide)]
    simp
  have he : evsErr [⟨i, ⟨#[116]⟩, ⟨#[]⟩, v⟩] = if 1 ≤ i then 0 else 1 := by
    unfold evsErr
    rw [if_neg (by simp), if_neg (by simp), List.all_cons, List.all_nil, hv]
    simp
  unfold checkC
  dsimp only
  rw [if_neg (by rintro (h | h | h); omega; omega; revert h; decide), if_neg (by rintro ⟨_, h⟩; rw [nameS] at h; cases h), he]
  by_cases hi : 1 ≤ i
  · rw [if_pos hi, if_neg (by rintro ⟨_, h⟩; exact h rfl), if_neg]
    rintro (⟨_, h⟩ | ⟨h, _⟩ | h)
    · revert h; decide
    · omega
    · unfold spareB at h; simp at h
  · rw [if_neg hi, if_pos ⟨rfl, by decide⟩]
theorem canB_nan {v : Nat} (h : nanB v = true) : canB v = 9221120237041090560 := by unfold canB; rw [if_pos h]
theorem put_nan {v u : Nat} (i : Int) (hv : nanB v = true) (hu : nanB u = true) : putC ⟨1, 0, ⟨#[115]⟩, 0, [⟨i, ⟨#[116]⟩, ⟨#[]⟩, v⟩], 0, 0, 0⟩ = putC ⟨1, 0, ⟨#[115]⟩, 0, [⟨i, ⟨#[116]⟩, ⟨#[]⟩, u⟩], 0, 0, 0⟩ := by
  rw [← putC_can, ← putC_can ⟨1, 0, ⟨#[115]⟩, 0, [⟨i, ⟨#[116]⟩, ⟨#[]⟩, u⟩], 0, 0, 0⟩]
  unfold Cmd.can Ev.can
  simp only [List.map_cons, List.map_nil]
  rw [canB_nan hv, canB_nan hu]

theorem eventNaN_any (a b : Nat) (id : Int) (w : World) (ha : a < 18446744073709551616) (hb : b < 18446744073709551616) (hi : -9223372036854775808 ≤ id ∧ id ≤ 9223372036854775807) :
    Calls Try.prog 9 #[.int .u64 (a : Int), .int .u64 (b : Int), .int .i64 id] w fun e w' => e = .returned (.bool true) ∧ Below w.heap.size w w' := by
  have hna := fun w => nan_any a w ha
  have hnb := fun w => nan_any b w hb
  have Hna := Lib.hid hna; have Hnb := Lib.hid hnb
  obtain ⟨hi1, hi2⟩ := hi
  clear hna hnb ha hb
  go_enter Try.func9, Try.ntmps9
  go_wp2_with fail
  refine (Hna.out _).mono ?_
  rintro e w1 ⟨⟨v, rfl, hv, hv1⟩, rfl⟩
  have Hv := Lib.hid hv; clear hv
  go_wp2_with fail
  refine (Hnb.out _).mono ?_
  rintro e w1 ⟨⟨u, rfl, hu, hu1⟩, rfl⟩
  have Hu := Lib.hid hu; clear hu
  go_wp2_with fail
  obtain ⟨V, hV⟩ : ∃ V, ((((((w.alloc (.cells #[.int .i64 id, .string ⟨#[116]⟩, .string ⟨#[]⟩, .float .f64 v] 33)).alloc (.cells #[.int .i64 id, .string ⟨#[116]⟩, .string ⟨#[]⟩, .float .f64 u] 33)).alloc (.cells #[.int .i64 id, .string ⟨#[116]⟩, .string ⟨#[]⟩, .float .f64 v] 33)).alloc (.cells #[.int .i64 1, .int .i64 0, .string ⟨#[115]⟩, .int .i64 0, .slice (some ⟨w.heap.size + 1 + 1, 0, none⟩) 1 1, .int .i64 0, .int .i64 0, .int .i64 0] 26)).alloc (.cells #[.int .i64 id, .string ⟨#[116]⟩, .string ⟨#[]⟩, .float .f64 u] 33)).alloc (.cells #[.int .i64 1, .int .i64 0, .string ⟨#[115]⟩, .int .i64 0, .slice (some ⟨w.heap.size + 1 + 1 + 1 + 1, 0, none⟩) 1 1, .int .i64 0, .int .i64 0, .int .i64 0] 26)) = V := ⟨_, rfl⟩
  have hB0 : BlkIs V (w.heap.size) 33 #[.int .i64 id, .string ⟨#[116]⟩, .string ⟨#[]⟩, .float .f64 v] := by
    rw [← hV]
    have := (BlkIs.new w 33 #[.int .i64 id, .string ⟨#[116]⟩, .string ⟨#[]⟩, .float .f64 v])
    have := this.alloc (.cells #[.int .i64 id, .string ⟨#[116]⟩, .string ⟨#[]⟩, .float .f64 u] 33)
    have := this.alloc (.cells #[.int .i64 id, .string ⟨#[116]⟩, .string ⟨#[]⟩, .float .f64 v] 33)
    have := this.alloc (.cells #[.int .i64 1, .int .i64 0, .string ⟨#[115]⟩, .int .i64 0, .slice (some ⟨w.heap.size + 1 + 1, 0, none⟩) 1 1, .int .i64 0, .int .i64 0, .int .i64 0] 26)
    have := this.alloc (.cells #[.int .i64 id, .string ⟨#[116]⟩, .string ⟨#[]⟩, .float .f64 u] 33)
    have := this.alloc (.cells #[.int .i64 1, .int .i64 0, .string ⟨#[115]⟩, .int .i64 0, .slice (some ⟨w.heap.size + 1 + 1 + 1 + 1, 0, none⟩) 1 1, .int .i64 0, .int .i64 0, .int .i64 0] 26)
    simpa using this
  have hB1 : BlkIs V (w.heap.size + 1) 33 #[.int .i64 id, .string ⟨#[116]⟩, .string ⟨#[]⟩, .float .f64 u] := by
    rw [← hV]
    have := (BlkIs.new (w.alloc (.cells #[.int .i64 id, .string ⟨#[116]⟩, .string ⟨#[]⟩, .float .f64 v] 33)) 33 #[.int .i64 id, .string ⟨#[116]⟩, .string ⟨#[]⟩, .float .f64 u])
    have := this.alloc (.cells #[.int .i64 id, .string ⟨#[116]⟩, .string ⟨#[]⟩, .float .f64 v] 33)
    have := this.alloc (.cells #[.int .i64 1, .int .i64 0, .string ⟨#[115]⟩, .int .i64 0, .slice (some ⟨w.heap.size + 1 + 1, 0, none⟩) 1 1, .int .i64 0, .int .i64 0, .int .i64 0] 26)
    have := this.alloc (.cells #[.int .i64 id, .string ⟨#[116]⟩, .string ⟨#[]⟩, .float .f64 u] 33)
    have := this.alloc (.cells #[.int .i64 1, .int .i64 0, .string ⟨#[115]⟩, .int .i64 0, .slice (some ⟨w.heap.size + 1 + 1 + 1 + 1, 0, none⟩) 1 1, .int .i64 0, .int .i64 0, .int .i64 0] 26)
    simpa using this
  have hB2 : BlkIs V (w.heap.size + 1 + 1) 33 #[.int .i64 id, .string ⟨#[116]⟩, .string ⟨#[]⟩, .float .f64 v] := by
    rw [← hV]
    have := (BlkIs.new ((w.alloc (.cells #[.int .i64 id, .string ⟨#[116]⟩, .string ⟨#[]⟩, .float .f64 v] 33)).alloc (.cells #[.int .i64 id, .string ⟨#[116]⟩, .string ⟨#[]⟩, .float .f64 u] 33)) 33 #[.int .i64 id, .string ⟨#[116]⟩, .string ⟨#[]⟩, .float .f64 v])
    have := this.alloc (.cells #[.int .i64 1, .int .i64 0, .string ⟨#[115]⟩, .int .i64 0, .slice (some ⟨w.heap.size + 1 + 1, 0, none⟩) 1 1, .int .i64 0, .int .i64 0, .int .i64 0] 26)
    have := this.alloc (.cells #[.int .i64 id, .string ⟨#[116]⟩, .string ⟨#[]⟩, .float .f64 u] 33)
    have := this.alloc (.cells #[.int .i64 1, .int .i64 0, .string ⟨#[115]⟩, .int .i64 0, .slice (some ⟨w.heap.size + 1 + 1 + 1 + 1, 0, none⟩) 1 1, .int .i64 0, .int .i64 0, .int .i64 0] 26)
    simpa using this
  have hB3 : BlkIs V (w.heap.size + 1 + 1 + 1) 26 #[.int .i64 1, .int .i64 0, .string ⟨#[115]⟩, .int .i64 0, .slice (some ⟨w.heap.size + 1 + 1, 0, none⟩) 1 1, .int .i64 0, .int .i64 0, .int .i64 0] := by
    rw [← hV]
    have := (BlkIs.new (((w.alloc (.cells #[.int .i64 id, .string ⟨#[116]⟩, .string ⟨#[]⟩, .float .f64 v] 33)).alloc (.cells #[.int .i64 id, .string ⟨#[116]⟩, .string ⟨#[]⟩, .float .f64 u] 33)).alloc (.cells #[.int .i64 id, .string ⟨#[116]⟩, .string ⟨#[]⟩, .float .f64 v] 33)) 26 #[.int .i64 1, .int .i64 0, .string ⟨#[115]⟩, .int .i64 0, .slice (some ⟨w.heap.size + 1 + 1, 0, none⟩) 1 1, .int .i64 0, .int .i64 0, .int .i64 0])
    have := this.alloc (.cells #[.int .i64 id, .string ⟨#[116]⟩, .string ⟨#[]⟩, .float .f64 u] 33)
    have := this.alloc (.cells #[.int .i64 1, .int .i64 0, .string ⟨#[115]⟩, .int .i64 0, .slice (some ⟨w.heap.size + 1 + 1 + 1 + 1, 0, none⟩) 1 1, .int .i64 0, .int .i64 0, .int .i64 0] 26)
    simpa using this
  have hB4 : BlkIs V (w.heap.size + 1 + 1 + 1 + 1) 33 #[.int .i64 id, .string ⟨#[116]⟩, .string ⟨#[]⟩, .float .f64 u] := by
    rw [← hV]
    have := (BlkIs.new ((((w.alloc (.cells #[.int .i64 id, .string ⟨#[116]⟩, .string ⟨#[]⟩, .float .f64 v] 33)).alloc (.cells #[.int .i64 id, .string ⟨#[116]⟩, .string ⟨#[]⟩, .float .f64 u] 33)).alloc (.cells #[.int .i64 id, .string ⟨#[116]⟩, .string ⟨#[]⟩, .float .f64 v] 33)).alloc (.cells #[.int .i64 1, .int .i64 0, .string ⟨#[115]⟩, .int .i64 0, .slice (some ⟨w.heap.size + 1 + 1, 0, none⟩) 1 1, .int .i64 0, .int .i64 0, .int .i64 0] 26)) 33 #[.int .i64 id, .string ⟨#[116]⟩, .string ⟨#[]⟩, .float .f64 u])
    have := this.alloc (.cells #[.int .i64 1, .int .i64 0, .string ⟨#[115]⟩, .int .i64 0, .slice (some ⟨w.heap.size + 1 + 1 + 1 + 1, 0, none⟩) 1 1, .int .i64 0, .int .i64 0, .int .i64 0] 26)
    simpa using this
  have hB5 : BlkIs V (w.heap.size + 1 + 1 + 1 + 1 + 1) 26 #[.int .i64 1, .int .i64 0, .string ⟨#[115]⟩, .int .i64 0, .slice (some ⟨w.heap.size + 1 + 1 + 1 + 1, 0, none⟩) 1 1, .int .i64 0, .int .i64 0, .int .i64 0] := by
    rw [← hV]
    have := (BlkIs.new (((((w.alloc (.cells #[.int .i64 id, .string ⟨#[116]⟩, .string ⟨#[]⟩, .float .f64 v] 33)).alloc (.cells #[.int .i64 id, .string ⟨#[116]⟩, .string ⟨#[]⟩, .float .f64 u] 33)).alloc (.cells #[.int .i64 id, .string ⟨#[116]⟩, .string ⟨#[]⟩, .float .f64 v] 33)).alloc (.cells #[.int .i64 1, .int .i64 0, .string ⟨#[115]⟩, .int .i64 0, .slice (some ⟨w.heap.size + 1 + 1, 0, none⟩) 1 1, .int .i64 0, .int .i64 0, .int .i64 0] 26)).alloc (.cells #[.int .i64 id, .string ⟨#[116]⟩, .string ⟨#[]⟩, .float .f64 u] 33)) 26 #[.int .i64 1, .int .i64 0, .string ⟨#[115]⟩, .int .i64 0, .slice (some ⟨w.heap.size + 1 + 1 + 1 + 1, 0, none⟩) 1 1, .int .i64 0, .int .i64 0, .int .i64 0])
    simpa using this
  have hb0 : Below w.heap.size w V := by
    rw [← hV]
    exact ((((((Below.refl _ _).alloc (Nat.le_refl _) _).alloc (by simp) _).alloc (by simp; omega) _).alloc (by simp; omega) _).alloc (by simp; omega) _).alloc (by simp; omega) _
  have hS0 : ∀ wx, Below V.heap.size V wx → wx.cell? ⟨w.heap.size, 0, none⟩ = some (.int .i64 id) ∧ wx.cell? ⟨w.heap.size, 1, none⟩ = some (.string ⟨#[116]⟩) ∧ wx.cell? ⟨w.heap.size, 2, none⟩ = some (.string ⟨#[]⟩) ∧ wx.cell? ⟨w.heap.size, 3, none⟩ = some (.float .f64 v) ∧ wx.cell? ⟨w.heap.size + 1, 0, none⟩ = some (.int .i64 id) ∧ wx.cell? ⟨w.heap.size + 1, 1, none⟩ = some (.string ⟨#[116]⟩) ∧ wx.cell? ⟨w.heap.size + 1, 2, none⟩ = some (.string ⟨#[]⟩) ∧ wx.cell? ⟨w.heap.size + 1, 3, none⟩ = some (.float .f64 u) ∧ wx.cell? ⟨w.heap.size + 1 + 1 + 1, 0, none⟩ = some (.int .i64 1) ∧ wx.cell? ⟨w.heap.size + 1 + 1 + 1, 1, none⟩ = some (.int .i64 0) ∧ wx.cell? ⟨w.heap.size + 1 + 1 + 1, 2, none⟩ = some (.string ⟨#[115]⟩) ∧ wx.cell? ⟨w.heap.size + 1 + 1 + 1, 3, none⟩ = some (.int .i64 0) ∧ wx.cell? ⟨w.heap.size + 1 + 1 + 1, 4, none⟩ = some (.slice (some ⟨w.heap.size + 1 + 1, 0, none⟩) 1 1) ∧ wx.cell? ⟨w.heap.size + 1 + 1 + 1, 5, none⟩ = some (.int .i64 0) ∧ wx.cell? ⟨w.heap.size + 1 + 1 + 1, 6, none⟩ = some (.int .i64 0) ∧ wx.cell? ⟨w.heap.size + 1 + 1 + 1, 7, none⟩ = some (.int .i64 0) ∧ wx.cell? ⟨w.heap.size + 1 + 1 + 1 + 1 + 1, 0, none⟩ = some (.int .i64 1) ∧ wx.cell? ⟨w.heap.size + 1 + 1 + 1 + 1 + 1, 1, none⟩ = some (.int .i64 0) ∧ wx.cell? ⟨w.heap.size + 1 + 1 + 1 + 1 + 1, 2, none⟩ = some (.string ⟨#[115]⟩) ∧ wx.cell? ⟨w.heap.size + 1 + 1 + 1 + 1 + 1, 3, none⟩ = some (.int .i64 0) ∧ wx.cell? ⟨w.heap.size + 1 + 1 + 1 + 1 + 1, 4, none⟩ = some (.slice (some ⟨w.heap.size + 1 + 1 + 1 + 1, 0, none⟩) 1 1) ∧ wx.cell? ⟨w.heap.size + 1 + 1 + 1 + 1 + 1, 5, none⟩ = some (.int .i64 0) ∧ wx.cell? ⟨w.heap.size + 1 + 1 + 1 + 1 + 1, 6, none⟩ = some (.int .i64 0) ∧ wx.cell? ⟨w.heap.size + 1 + 1 + 1 + 1 + 1, 7, none⟩ = some (.int .i64 0) := fun wx h => by
    have f0 := (hB0.below h hB0.lt).cell
    have f1 := (hB1.below h hB1.lt).cell
    have f3 := (hB3.below h hB3.lt).cell
    have f5 := (hB5.below h hB5.lt).cell
    exact ⟨f0 0, f0 1, f0 2, f0 3, f1 0, f1 1, f1 2, f1 3, f3 0, f3 1, f3 2, f3 3, f3 4, f3 5, f3 6, f3 7, f5 0, f5 1, f5 2, f5 3, f5 4, f5 5, f5 6, f5 7⟩
  have hsl1 : SlR V V.heap.size 4 (some ⟨w.heap.size + 1 + 1, 0, none⟩) 1 (evVs [⟨id, ⟨#[116]⟩, ⟨#[]⟩, v⟩]) := SlR.blk hB2 rfl hB2.lt
  have hsl2 : SlR V V.heap.size 4 (some ⟨w.heap.size + 1 + 1 + 1 + 1, 0, none⟩) 1 (evVs [⟨id, ⟨#[116]⟩, ⟨#[]⟩, u⟩]) := SlR.blk hB4 rfl hB4.lt
  have hf : ∀ q : Nat, q < 18446744073709551616 → ∀ e ∈ [(⟨id, ⟨#[116]⟩, ⟨#[]⟩, q⟩ : Ev)], e.fits := fun q hq e he => by
    simp at he; subst he; exact ⟨hi1, hi2, by show (⟨#[116]⟩ : ByteArray).size ≤ _; decide, by show (⟨#[]⟩ : ByteArray).size ≤ _; decide, hq⟩
  have hp1 := fun wx (h : Below V.heap.size V wx) => put_any 1 0 ⟨#[115]⟩ 0 (some ⟨w.heap.size + 1 + 1, 0, none⟩) 1 1 V.heap.size _ 0 0 0 wx (hsl1.below h) h.size (by omega) (hf v hv1) (by decide)
  have hp2 := fun wx (h : Below V.heap.size V wx) => put_any 1 0 ⟨#[115]⟩ 0 (some ⟨w.heap.size + 1 + 1 + 1 + 1, 0, none⟩) 1 1 V.heap.size _ 0 0 0 wx (hsl2.below h) h.size (by omega) (hf u hu1) (by decide)
  rw [put_nan id Hv.out Hu.out] at hp1
  have hsm := fun wx (h : Below V.heap.size V wx) => same_any 1 0 ⟨#[115]⟩ 0 (some ⟨w.heap.size + 1 + 1, 0, none⟩) 1 1 _ 0 0 0 1 0 ⟨#[115]⟩ 0 (some ⟨w.heap.size + 1 + 1 + 1 + 1, 0, none⟩) 1 1 _ 0 0 0 V.heap.size wx (hsl1.below h) (hsl2.below h) h.size (by omega) (by omega)
  have hcan : sameC ⟨1, 0, ⟨#[115]⟩, 0, [⟨id, ⟨#[116]⟩, ⟨#[]⟩, v⟩], 0, 0, 0⟩ ⟨1, 0, ⟨#[115]⟩, 0, [⟨id, ⟨#[116]⟩, ⟨#[]⟩, u⟩], 0, 0, 0⟩ = true := by
    rw [sameC_iff]
    unfold Cmd.can Ev.can
    simp only [List.map_cons, List.map_nil]
    rw [canB_nan Hv.out, canB_nan Hu.out]
  rw [hcan] at hsm
  have hse := fun w => sameEvent_any ⟨id, ⟨#[116]⟩, ⟨#[]⟩, v⟩ ⟨id, ⟨#[116]⟩, ⟨#[]⟩, u⟩ w
  rw [show sameE ⟨id, ⟨#[116]⟩, ⟨#[]⟩, v⟩ ⟨id, ⟨#[116]⟩, ⟨#[]⟩, u⟩ = true from by rw [sameE_iff]; unfold Ev.can; rw [canB_nan Hv.out, canB_nan Hu.out]] at hse
  have hsz := fun w => sameEvent_any ⟨id, ⟨#[116]⟩, ⟨#[]⟩, 9223372036854775808⟩ ⟨id, ⟨#[116]⟩, ⟨#[]⟩, 0⟩ w
  have hz1 : canB 9223372036854775808 = 9223372036854775808 := by decide
  have hz0 : canB 0 = 0 := by decide
  rw [show sameE ⟨id, ⟨#[116]⟩, ⟨#[]⟩, 9223372036854775808⟩ ⟨id, ⟨#[116]⟩, ⟨#[]⟩, 0⟩ = false from by unfold sameE; rw [hz1, hz0]; simp] at hsz
  unfold evA at hse hsz
  dsimp only at hse hsz
  have hck := putC_snd ⟨1, 0, ⟨#[115]⟩, 0, [⟨id, ⟨#[116]⟩, ⟨#[]⟩, u⟩], 0, 0, 0⟩
  rw [check_nan] at hck
  generalize putC ⟨1, 0, ⟨#[115]⟩, 0, [⟨id, ⟨#[116]⟩, ⟨#[]⟩, u⟩], 0, 0, 0⟩ = pp at hck hp1 hp2
  obtain ⟨pl, pe⟩ := pp
  dsimp only at hck hp1 hp2
  by_cases hid : id < 1
  · rw [if_neg (by omega)] at hck
    subst hck
    have HB := Below.refl V.heap.size V
    have Hsz6 := Lib.hid (show w.heap.size + 6 ≤ V.heap.size from by have := hB5.lt; omega)
    obtain ⟨c00, c01, c02, c03, c04, c05, c06, c07, c08, c09, c10, c11, c12, c13, c14, c15, c16, c17, c18, c19, c20, c21, c22, c23⟩ := hS0 _ HB
    have HS := Lib.hid hS0; have Hb0 := Lib.hid hb0; have Hp1 := Lib.hid hp1; have Hp2 := Lib.hid hp2; have Hsm := Lib.hid hsm; have Hse := Lib.hid hse; have Hsz := Lib.hid hsz
    clear hB0 hB1 hB2 hB3 hB4 hB5 hb0 hS0 hsl1 hsl2 hf hp1 hp2 hsm hcan hse hsz hz1 hz0
    (try rw [hV])
    clear hV
    refine (Hp1.out _ HB).mono ?_
    rintro e wx ⟨rfl, hb⟩
    replace HB := HB.trans (hb.mono HB.size)
    clear hb c00 c01 c02 c03 c04 c05 c06 c07 c08 c09 c10 c11 c12 c13 c14 c15 c16 c17 c18 c19 c20 c21 c22 c23
    obtain ⟨c00, c01, c02, c03, c04, c05, c06, c07, c08, c09, c10, c11, c12, c13, c14, c15, c16, c17, c18, c19, c20, c21, c22, c23⟩ := HS.out _ HB
    go_wp2_with fail
    refine (Hp2.out _ HB).mono ?_
    rintro e wx ⟨rfl, hb⟩
    replace HB := HB.trans (hb.mono HB.size)
    clear hb c00 c01 c02 c03 c04 c05 c06 c07 c08 c09 c10 c11 c12 c13 c14 c15 c16 c17 c18 c19 c20 c21 c22 c23
    obtain ⟨c00, c01, c02, c03, c04, c05, c06, c07, c08, c09, c10, c11, c12, c13, c14, c15, c16, c17, c18, c19, c20, c21, c22, c23⟩ := HS.out _ HB
    go_wp2_with fail
    refine (alive7_any _).mono ?_
    rintro e wx ⟨rfl, hb⟩
    replace HB := HB.trans (hb.mono HB.size)
    clear hb
    go_wp2_with fail
    go_ret
    exact ⟨rfl, Hb0.out.trans (HB.mono Hb0.out.size)⟩
  · rw [if_pos (by omega)] at hck
    subst hck
    have HB := Below.refl V.heap.size V
    have Hsz6 := Lib.hid (show w.heap.size + 6 ≤ V.heap.size from by have := hB5.lt; omega)
    obtain ⟨c00, c01, c02, c03, c04, c05, c06, c07, c08, c09, c10, c11, c12, c13, c14, c15, c16, c17, c18, c19, c20, c21, c22, c23⟩ := hS0 _ HB
    have HS := Lib.hid hS0; have Hb0 := Lib.hid hb0; have Hp1 := Lib.hid hp1; have Hp2 := Lib.hid hp2; have Hsm := Lib.hid hsm; have Hse := Lib.hid hse; have Hsz := Lib.hid hsz
    clear hB0 hB1 hB2 hB3 hB4 hB5 hb0 hS0 hsl1 hsl2 hf hp1 hp2 hsm hcan hse hsz hz1 hz0
    (try rw [hV])
    clear hV
    refine (Hp1.out _ HB).mono ?_
    rintro e wx ⟨rfl, hb⟩
    replace HB := HB.trans (hb.mono HB.size)
    clear hb c00 c01 c02 c03 c04 c05 c06 c07 c08 c09 c10 c11 c12 c13 c14 c15 c16 c17 c18 c19 c20 c21 c22 c23
    obtain ⟨c00, c01, c02, c03, c04, c05, c06, c07, c08, c09, c10, c11, c12, c13, c14, c15, c16, c17, c18, c19, c20, c21, c22, c23⟩ := HS.out _ HB
    go_wp2_with fail
    refine (Hp2.out _ HB).mono ?_
    rintro e wx ⟨rfl, hb⟩
    replace HB := HB.trans (hb.mono HB.size)
    clear hb c00 c01 c02 c03 c04 c05 c06 c07 c08 c09 c10 c11 c12 c13 c14 c15 c16 c17 c18 c19 c20 c21 c22 c23
    obtain ⟨c00, c01, c02, c03, c04, c05, c06, c07, c08, c09, c10, c11, c12, c13, c14, c15, c16, c17, c18, c19, c20, c21, c22, c23⟩ := HS.out _ HB
    have hsz0 := Nat.le_trans Hsz6.out HB.size
    have l0 : w.heap.size < wx.heap.size := by omega
    have l1 : w.heap.size + 1 < wx.heap.size := by omega
    have l3 : w.heap.size + 1 + 1 + 1 < wx.heap.size := by omega
    have l5 : w.heap.size + 1 + 1 + 1 + 1 + 1 < wx.heap.size := by omega
    clear hsz0
    go_wp2_with fail
    refine (minus_any _).mono ?_
    rintro e wx2 ⟨rfl, rfl⟩
    go_wp2_with fail
    obtain ⟨V2, hV2⟩ : ∃ V2, (wx.alloc (.cells #[.int .i64 id, .string ⟨#[116]⟩, .string ⟨#[]⟩, .float .f64 9223372036854775808] 33)).alloc (.cells #[.int .i64 id, .string ⟨#[116]⟩, .string ⟨#[]⟩, .float .f64 0] 33) = V2 := ⟨_, rfl⟩
    have hZ : BlkIs V2 wx.heap.size 33 #[.int .i64 id, .string ⟨#[116]⟩, .string ⟨#[]⟩, .float .f64 9223372036854775808] := by rw [← hV2]; exact (BlkIs.new _ _ _).alloc _
    have hW : BlkIs V2 (wx.heap.size + 1) 33 #[.int .i64 id, .string ⟨#[116]⟩, .string ⟨#[]⟩, .float .f64 0] := by
      rw [← hV2]
      have := BlkIs.new (wx.alloc (.cells #[.int .i64 id, .string ⟨#[116]⟩, .string ⟨#[]⟩, .float .f64 9223372036854775808] 33)) 33 #[.int .i64 id, .string ⟨#[116]⟩, .string ⟨#[]⟩, .float .f64 0]
      simpa using this
    have hb2 : Below wx.heap.size wx V2 := by rw [← hV2]; exact ((Below.refl _ _).alloc (Nat.le_refl _) _).alloc (by simp) _
    replace HB := HB.trans (hb2.mono HB.size)
    (try rw [hV2])
    clear hV2 hb2 c00 c01 c02 c03 c04 c05 c06 c07 c08 c09 c10 c11 c12 c13 c14 c15 c16 c17 c18 c19 c20 c21 c22 c23 l0 l1 l3 l5
    generalize wx.heap.size = gz at hZ hW ⊢
    refine (alive7_any _).mono ?_
    rintro e w3 ⟨rfl, hb⟩
    replace HB := HB.trans (hb.mono HB.size)
    have hZ3 := hZ.below hb hZ.lt
    have hW3 := hW.below hb hW.lt
    have z := hZ3.cell
    have y := hW3.cell
    have z0 := z 0; have z1 := z 1; have z2 := z 2; have z3 := z 3
    have y0 := y 0; have y1 := y 1; have y2 := y 2; have y3 := y 3
    have HZ3 := Lib.hid hZ3; have HW3 := Lib.hid hW3
    clear hb hZ hW z y hZ3 hW3
    obtain ⟨c00, c01, c02, c03, c04, c05, c06, c07, c08, c09, c10, c11, c12, c13, c14, c15, c16, c17, c18, c19, c20, c21, c22, c23⟩ := HS.out _ HB
    go_wp2_with fail
    refine (Hsm.out _ HB).mono ?_
    rintro e w4 ⟨rfl, hb⟩
    replace HB := HB.trans (hb.mono HB.size)
    have hZ4 := HZ3.out.below hb HZ3.out.lt
    have hW4 := HW3.out.below hb HW3.out.lt
    clear hb c00 c01 c02 c03 c04 c05 c06 c07 c08 c09 c10 c11 c12 c13 c14 c15 c16 c17 c18 c19 c20 c21 c22 c23 z0 z1 z2 z3 y0 y1 y2 y3
    have HZ4 := Lib.hid hZ4; have HW4 := Lib.hid hW4
    clear hZ4 hW4
    obtain ⟨c00, c01, c02, c03, c04, c05, c06, c07, c08, c09, c10, c11, c12, c13, c14, c15, c16, c17, c18, c19, c20, c21, c22, c23⟩ := HS.out _ HB
    go_wp2_with fail
    refine (Hse.out _).mono ?_
    rintro e w5 ⟨rfl, hb⟩
    replace HB := HB.trans (hb.mono HB.size)
    have hZ5 := HZ4.out.below hb HZ4.out.lt
    have hW5 := HW4.out.below hb HW4.out.lt
    have z := hZ5.cell
    have y := hW5.cell
    have z0 := z 0; have z1 := z 1; have z2 := z 2; have z3 := z 3
    have y0 := y 0; have y1 := y 1; have y2 := y 2; have y3 := y 3
    clear hb c00 c01 c02 c03 c04 c05 c06 c07 c08 c09 c10 c11 c12 c13 c14 c15 c16 c17 c18 c19 c20 c21 c22 c23 z y hZ5 hW5
    go_wp2_with fail
    refine (Hsz.out _).mono ?_
    rintro e w6 ⟨rfl, hb⟩
    replace HB := HB.trans (hb.mono HB.size)
    clear hb
    go_wp2_with fail
    go_ret
    exact ⟨rfl, Hb0.out.trans (HB.mono Hb0.out.size)⟩
end Go.Proofs.Ytfpalamoaflilaa
