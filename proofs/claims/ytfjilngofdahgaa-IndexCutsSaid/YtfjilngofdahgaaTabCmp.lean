/- chapter 12: entries held against each other. -/
import Derived.Test.YtfjilngofdahgaaRows
import Derived.Test.YtfjilngofdahgaaTabLaw
import Derived.Test.YtfjilngofdahgaaSlice
import Derived.RegionTactic
import Derived.Deep.QuietTactic
import Derived.BigQuiet
import Derived.Deep.RegionWith
import Derived.Deep.RegionHeld3
namespace Go.Proofs.Ytfjilngofdahgaa
open Go.RowKit
set_option maxHeartbeats 1000000
set_option maxRecDepth 100000
set_option linter.unusedVariables false

def enC (e : En) : List Value := [.int .i64 e.1, .int .i64 e.2.1, .int .i64 e.2.2]
def enA (e : En) : Value := .agg #[.int .i64 e.1, .int .i64 e.2.1, .int .i64 e.2.2]
def cmpI (a b : Int) : Int := if a < b then -1 else if b < a then 1 else 0
def orI (x y z : Int) : Int := if x ≠ 0 then x else if y ≠ 0 then y else z
def cmpE (a b : En) : Int := orI (cmpI a.1 b.1) (cmpI a.2.1 b.2.1) (cmpI a.2.2 b.2.2)
theorem cmpE_lt (a b : En) : decide (cmpE a b < 0) = ltE a b := by
  unfold cmpE orI cmpI ltE
  rw [decide_eq_decide]
  constructor
  · intro h; (repeat' split at h) <;> omega
  · intro h; (repeat' split) <;> omega
theorem cmpE_eq (a b : En) : decide (cmpE a b = 0) = decide (a = b) := by
  obtain ⟨a1, a2, a3⟩ := a; obtain ⟨b1, b2, b3⟩ := b
  unfold cmpE orI cmpI
  rw [decide_eq_decide]
  simp only [Prod.mk.injEq]
  constructor
  · intro h; (repeat' split at h) <;> omega
  · rintro ⟨rfl, rfl, rfl⟩; simp
theorem cmpE_small (a b : En) : -1 ≤ cmpE a b ∧ cmpE a b ≤ 1 := by
  unfold cmpE orI cmpI
  (repeat' split) <;> omega

theorem cmpInt_any (a b : Int) (w : World) : Calls Try.prog 58 #[.int .i64 a, .int .i64 b] w fun e w' => e = .returned (.int .i64 (cmpI a b)) ∧ w = w' := by
  rcases Int.lt_trichotomy a b with h | h | h
  · have hv : cmpI a b = -1 := by unfold cmpI; rw [if_pos h]
    rw [hv]
    go_enter Try.func58, Try.ntmps58
    go_wp2
    go_ret
    exact ⟨rfl, rfl⟩
  · subst h
    have hv : cmpI a a = 0 := by unfold cmpI; simp
    rw [hv]
    go_enter Try.func58, Try.ntmps58
    go_wp2
    go_ret
    exact ⟨rfl, rfl⟩
  · have hv : cmpI a b = 1 := by unfold cmpI; rw [if_neg (by omega), if_pos h]
    have h2 : ¬ a < b := by omega
    rw [hv]
    go_enter Try.func58, Try.ntmps58
    go_wp2
    go_ret
    exact ⟨rfl, rfl⟩

theorem or_any (x y z : Int) (g : Nat) (w : World) (hB : BlkIs w g 3 #[.int .i64 x, .int .i64 y, .int .i64 z]) : Calls Try.prog 57 #[.slice (some ⟨g, 0, none⟩) 3 3] w fun e w' => e = .returned (.int .i64 (orI x y z)) ∧ w = w' := by
  have hc := hB.cell
  have c0 := hc 0; have c1 := hc 1; have c2 := hc 2
  simp at c0 c1 c2
  clear hc
  by_cases hx : x = 0
  · subst hx
    by_cases hy : y = 0
    · subst hy
      have hv : orI 0 0 z = z := by simp [orI]
      rw [hv]
      by_cases hz : z = 0
      · subst hz
        go_enter Try.func57, Try.ntmps57
        go_wp2
        refine wp_loop_rounds 4 ?_
        rw [rounds_succ]; go_wp2
        rw [rounds_succ]; go_wp2
        rw [rounds_succ]; go_wp2
        rw [rounds_succ]; go_wp2
        go_ret
        exact ⟨rfl, rfl⟩
      · have hz' : (z != 0) = true := by simpa using hz
        clear hz
        go_enter Try.func57, Try.ntmps57
        go_wp2
        refine wp_loop_rounds 3 ?_
        rw [rounds_succ]; go_wp2
        rw [rounds_succ]; go_wp2
        rw [rounds_succ]; go_wp2
        go_ret
        exact ⟨rfl, rfl⟩
    · have hv : orI 0 y z = y := by simp [orI, hy]
      rw [hv]
      have hy' : (y != 0) = true := by simpa using hy
      clear hy
      go_enter Try.func57, Try.ntmps57
      go_wp2
      refine wp_loop_rounds 2 ?_
      rw [rounds_succ]; go_wp2
      rw [rounds_succ]; go_wp2
      go_ret
      exact ⟨rfl, rfl⟩
  · have hv : orI x y z = x := by simp [orI, hx]
    rw [hv]
    have hx' : (x != 0) = true := by simpa using hx
    clear hx
    go_enter Try.func57, Try.ntmps57
    go_wp2
    refine wp_loop_rounds 1 ?_
    rw [rounds_succ]; go_wp2
    go_ret
    exact ⟨rfl, rfl⟩

theorem compare_any (a b : En) (w : World) : Calls Try.prog 35 #[enA a, enA b] w fun e w' => e = .returned (.int .i64 (cmpE a b)) ∧ Below w.heap.size w w' := by
  obtain ⟨a0, a1, a2⟩ := a
  obtain ⟨b0, b1, b2⟩ := b
  unfold enA cmpE
  dsimp only
  obtain ⟨W, hW⟩ : ∃ W, (w.alloc (.cells #[.int .i64 a0, .int .i64 a1, .int .i64 a2] 27)).alloc (.cells #[.int .i64 b0, .int .i64 b1, .int .i64 b2] 27) = W := ⟨_, rfl⟩
  have hA : BlkIs W w.heap.size 27 #[.int .i64 a0, .int .i64 a1, .int .i64 a2] := by rw [← hW]; exact (BlkIs.new _ _ _).alloc _
  have hB : BlkIs W (w.heap.size + 1) 27 #[.int .i64 b0, .int .i64 b1, .int .i64 b2] := by
    rw [← hW]
    have := BlkIs.new (w.alloc (.cells #[.int .i64 a0, .int .i64 a1, .int .i64 a2] 27)) 27 #[.int .i64 b0, .int .i64 b1, .int .i64 b2]
    simpa using this
  have hb : Below w.heap.size w W := by rw [← hW]; exact ((Below.refl _ _).alloc (Nat.le_refl _) _).alloc (by simp) _
  have HA := Lib.hid hA; have HB' := Lib.hid hB; have Hb := Lib.hid hb
  have hS0 : ∀ wx, Below W.heap.size W wx → wx.cell? ⟨w.heap.size, 0, none⟩ = some (.int .i64 a0) ∧ wx.cell? ⟨w.heap.size, 1, none⟩ = some (.int .i64 a1) ∧ wx.cell? ⟨w.heap.size, 2, none⟩ = some (.int .i64 a2) ∧ wx.cell? ⟨w.heap.size + 1, 0, none⟩ = some (.int .i64 b0) ∧ wx.cell? ⟨w.heap.size + 1, 1, none⟩ = some (.int .i64 b1) ∧ wx.cell? ⟨w.heap.size + 1, 2, none⟩ = some (.int .i64 b2) := by
    intro wx h
    have f1 := (hA.below h hA.lt).cell; have f2 := (hB.below h hB.lt).cell
    exact ⟨f1 0, f1 1, f1 2, f2 0, f2 1, f2 2⟩
  have HS := Lib.hid hS0
  clear hA hB hb hS0
  have HB : Below W.heap.size W W := Below.refl _ _
  have hS := HS.out _ HB
  go_enter Try.func35, Try.ntmps35
  go_wp2_with fail
  go_region_held3 (fun wx => wx.cell? ⟨w.heap.size, 0, none⟩ = some (.int .i64 a0) ∧ wx.cell? ⟨w.heap.size, 1, none⟩ = some (.int .i64 a1) ∧ wx.cell? ⟨w.heap.size, 2, none⟩ = some (.int .i64 a2) ∧ wx.cell? ⟨w.heap.size + 1, 0, none⟩ = some (.int .i64 b0) ∧ wx.cell? ⟨w.heap.size + 1, 1, none⟩ = some (.int .i64 b1) ∧ wx.cell? ⟨w.heap.size + 1, 2, none⟩ = some (.int .i64 b2)) (first | exact hS | go_keep) ((first
    | (go_at_call 58; refine (cmpInt_any _ _ _).mono ?_; rintro e wx ⟨rfl, rfl⟩)
    | (go_at_call 57; refine (or_any _ _ _ _ _ (BlkIs.drew (BlkIs.new _ _ _))).mono ?_; rintro e wx ⟨rfl, rfl⟩)))
  all_goals
    go_wp2_with fail
    go_ret
    exact ⟨rfl, Hb.out.trans ((((Below.refl _ _).alloc Hb.out.size _).drew : Below w.heap.size W _))⟩
end Go.Proofs.Ytfjilngofdahgaa
