/- chapter 12: entries held against each other. -/
import Derived.Test.YtfkkcgdniepgoaaGreatRows
import Derived.Test.YtfkkcgdniepgoaaGreatJTableMerges1
import Derived.RegionTactic
import Derived.Deep.QuietTactic
import Derived.BigQuiet
import Derived.Deep.RegionWith
import Derived.Deep.RegionHeld3

namespace Go.Proofs.YtfkkcgdniepgoaaGreat
open Go.RowKit
set_option maxHeartbeats 1000000
set_option maxRecDepth 100000
set_option linter.unusedVariables false

def enC (e : En) : List Value := [.int .i64 e.1, .int .i64 e.2.1, .int .i64 e.2.2]
def enA (e : En) : Value := .agg #[.int .i64 e.1, .int .i64 e.2.1, .int .i64 e.2.2]
def cmpI (a b : Int) : Int := if a < b then -1 else if b < a then 1 else 0
def orI (x y z : Int) : Int := if x ≠ 0 then x else if y ≠ 0 then y else z
def cmpE (a b : En) : Int := orI (cmpI a.1 b.1) (cmpI a.2.1 b.2.1) (cmpI a.2.2 b.2.2)
theorem cmpE_lt (a b : En) : decide (cmpE a b < 0) = ltE a b := by
  unfold cmpE orI cmpI ltE
  rw [decide_eq_decide]
  constructor
  · intro h; (repeat' split at h) <;> omega
  · intro h; (repeat' split) <;> omega
theorem cmpE_eq (a b : En) : decide (cmpE a b = 0) = decide (a = b) := by
  obtain ⟨a1, a2, a3⟩ := a; obtain ⟨b1, b2, b3⟩ := b
  unfold cmpE orI cmpI
  rw [decide_eq_decide]
  simp only [Prod.mk.injEq]
  constructor
  · intro h; (repeat' split at h) <;> omega
  · rintro ⟨rfl, rfl, rfl⟩; simp
theorem cmpE_small (a b : En) : -1 ≤ cmpE a b ∧ cmpE a b ≤ 1 := by
  unfold cmpE orI cmpI
  (repeat' split) <;> omega

theorem cmpInt_any (a b : Int) (w : World) : Calls Tryz.prog 112 #[.int .i64 a, .int .i64 b] w fun e w' => e = .returned (.int .i64 (cmpI a b)) ∧ w = w' := by
  rcases Int.lt_trichotomy a b with h | h | h
  · have hv : cmpI a b = -1 := by unfold cmpI; rw [if_pos h]
    rw [hv]
    go_enter Tryz.func112, Tryz.ntmps112
    go_wp2
    go_ret
    exact ⟨rfl, rfl⟩
  · subst h
    have hv : cmpI a a = 0 := by unfold cmpI; simp
    rw [hv]
    go_enter Tryz.func112, Tryz.ntmps112
    go_wp2
    go_ret
    exact ⟨rfl, rfl⟩
  · have hv : cmpI a b = 1 := by unfold cmpI; rw [if_neg (by omega), if_pos h]
    have h2 : ¬ a < b := by omega
    rw [hv]
    go_enter Tryz.func112, Tryz.ntmps112
    go_wp2
    go_ret
    exact ⟨rfl, rfl⟩

theorem or_any (x y z : Int) (g : Nat) (w : World) (hB : BlkIs w g 3 #[.int .i64 x, .int .i64 y, .int .i64 z]) : Calls Tryz.prog 111 #[.slice (some ⟨g, 0, none⟩) 3 3] w fun e w' => e = .returned (.int .i64 (orI x y z)) ∧ w = w' := by
  have hc := hB.cell
  have c0 := hc 0; have c1 := hc 1; have c2 := hc 2
  simp at c0 c1 c2
  clear hc
  by_cases hx : x = 0
  · subst hx
    by_cases hy : y = 0
    · subst hy
      have hv : orI 0 0 z = z := by simp [orI]
      rw [hv]
      by_cases hz : z = 0
      · subst hz
        go_enter Tryz.func111, Tryz.ntmps111
        go_wp2
        refine wp_loop_rounds 4 ?_
        rw [rounds_succ]; go_wp2
        rw [rounds_succ]; go_wp2
        rw [rounds_succ]; go_wp2
        rw [rounds_succ]; go_wp2
        go_ret
        exact ⟨rfl, rfl⟩
      · have hz' : (z != 0) = true := by simpa using hz
        clear hz
        go_enter Tryz.func111, Tryz.ntmps111
        go_wp2
        refine wp_loop_rounds 3 ?_
        rw [rounds_succ]; go_wp2
        rw [rounds_succ]; go_wp2
        rw [rounds_succ]; go_wp2
        go_ret
        exact ⟨rfl, rfl⟩
    · have hv : orI 0 y z = y := by simp [orI, hy]
      rw [hv]
      have hy' : (y != 0) = true := by simpa using hy
      clear hy
      go_enter Tryz.func111, Tryz.ntmps111
      go_wp2
      refine wp_loop_rounds 2 ?_
      rw [rounds_succ]; go_wp2
      rw [rounds_succ]; go_wp2
      go_ret
      exact ⟨rfl, rfl⟩
  · have hv : orI x y z = x := by simp [orI, hx]
    rw [hv]
    have hx' : (x != 0) = true := by simpa using hx
    clear hx
    go_enter Tryz.func111, Tryz.ntmps111
    go_wp2
    refine wp_loop_rounds 1 ?_
    rw [rounds_succ]; go_wp2
    go_ret
    exact ⟨rfl, rfl⟩

theorem compare_any (a b : En) (w : World) : Calls Tryz.prog 77 #[enA a, enA b] w fun e w' => e = .returned (.int .i64 (cmpE a b)) ∧ Below w.heap.size w w' := by
  obtain ⟨a0, a1, a2⟩ := a
  obtain ⟨b0, b1, b2⟩ := b
  unfold enA cmpE
  dsimp only
  obtain ⟨W, hW⟩ : ∃ W, (w.alloc (.cells #[.int .i64 a0, .int .i64 a1, .int .i64 a2] 53)).alloc (.cells #[.int .i64 b0, .int .i64 b1, .int .i64 b2] 53) = W := ⟨_, rfl⟩
  have hA : BlkIs W w.heap.size 53 #[.int .i64 a0, .int .i64 a1, .int .i64 a2] := by rw [← hW]; exact (BlkIs.new _ _ _).alloc _
  have hB : BlkIs W (w.heap.size + 1) 53 #[.int .i64 b0, .int .i64 b1, .int .i64 b2] := by
    rw [← hW]
    have := BlkIs.new (w.alloc (.cells #[.int .i64 a0, .int .i64 a1, .int .i64 a2] 53)) 53 #[.int .i64 b0, .int .i64 b1, .int .i64 b2]
    simpa using this
  have hb : Below w.heap.size w W := by rw [← hW]; exact ((Below.refl _ _).alloc (Nat.le_refl _) _).alloc (by simp) _
  have HA := Lib.hid hA; have HB' := Lib.hid hB; have Hb := Lib.hid hb
  have hS0 : ∀ wx, Below W.heap.size W wx → wx.cell? ⟨w.heap.size, 0, none⟩ = some (.int .i64 a0) ∧ wx.cell? ⟨w.heap.size, 1, none⟩ = some (.int .i64 a1) ∧ wx.cell? ⟨w.heap.size, 2, none⟩ = some (.int .i64 a2) ∧ wx.cell? ⟨w.heap.size + 1, 0, none⟩ = some (.int .i64 b0) ∧ wx.cell? ⟨w.heap.size + 1, 1, none⟩ = some (.int .i64 b1) ∧ wx.cell? ⟨w.heap.size + 1, 2, none⟩ = some (.int .i64 b2) := by
    intro wx h
    have f1 := (hA.below h hA.lt).cell; have f2 := (hB.below h hB.lt).cell
    exact ⟨f1 0, f1 1, f1 2, f2 0, f2 1, f2 2⟩
  have HS := Lib.hid hS0
  clear hA hB hb hS0
  have HB : Below W.heap.size W W := Below.refl _ _
  have hS := HS.out _ HB
  go_enter Tryz.func77, Tryz.ntmps77
  go_wp2_with fail
  go_region_held3 (fun wx => wx.cell? ⟨w.heap.size, 0, none⟩ = some (.int .i64 a0) ∧ wx.cell? ⟨w.heap.size, 1, none⟩ = some (.int .i64 a1) ∧ wx.cell? ⟨w.heap.size, 2, none⟩ = some (.int .i64 a2) ∧ wx.cell? ⟨w.heap.size + 1, 0, none⟩ = some (.int .i64 b0) ∧ wx.cell? ⟨w.heap.size + 1, 1, none⟩ = some (.int .i64 b1) ∧ wx.cell? ⟨w.heap.size + 1, 2, none⟩ = some (.int .i64 b2)) (first | exact hS | go_keep) ((first
    | (go_at_call 112; refine (cmpInt_any _ _ _).mono ?_; rintro e wx ⟨rfl, rfl⟩)
    | (go_at_call 111; refine (or_any _ _ _ _ _ (BlkIs.drew (BlkIs.new _ _ _))).mono ?_; rintro e wx ⟨rfl, rfl⟩)))
  all_goals
    go_wp2_with fail
    go_ret
    exact ⟨rfl, Hb.out.trans ((((Below.refl _ _).alloc Hb.out.size _).drew : Below w.heap.size W _))⟩
end Go.Proofs.YtfkkcgdniepgoaaGreat

/- chapter 12: the place of an entry, found by halves. -/
namespace Go.Proofs.YtfkkcgdniepgoaaGreat
open Go.RowKit
set_option maxHeartbeats 2000000
set_option maxRecDepth 100000
set_option linter.unusedVariables false

def enVs (l : List En) : List Value := l.flatMap enC
theorem enC_length (e : En) : (enC e).length = 3 := rfl
theorem enVs_nil : enVs [] = [] := rfl
theorem enVs_cons (p : En) (ps : List En) : enVs (p :: ps) = enC p ++ enVs ps := rfl
theorem enVs_append (ps qs : List En) : enVs (ps ++ qs) = enVs ps ++ enVs qs := by simp [enVs]
theorem enVs_length (ps : List En) : (enVs ps).length = ps.length * 3 := by
  induction ps with
  | nil => rfl
  | cons p ps ih => rw [enVs_cons, List.length_append, ih, List.length_cons, enC_length]; omega
theorem enVs_drop (ps : List En) (k : Nat) : (enVs ps).drop (k * 3) = enVs (ps.drop k) := by
  induction k generalizing ps with
  | zero => simp
  | succ k ih =>
    cases ps with
    | nil => simp [enVs]
    | cons p ps =>
      rw [enVs_cons, List.drop_succ_cons, ← ih ps, show (k + 1) * 3 = (enC p).length + k * 3 from by rw [enC_length]; omega, List.drop_append]
      simp
theorem enVs_take (ps : List En) (k : Nat) : (enVs ps).take (k * 3) = enVs (ps.take k) := by
  induction k generalizing ps with
  | zero => simp [enVs]
  | succ k ih =>
    cases ps with
    | nil => simp [enVs]
    | cons p ps =>
      rw [enVs_cons, List.take_succ_cons, enVs_cons, ← ih ps, show (k + 1) * 3 = (enC p).length + k * 3 from by rw [enC_length]; omega, List.take_append]
      simp [List.take_of_length_le]
theorem enVs_get (ps : List En) (k j : Nat) (p : En) (h : ps[k]? = some p) (hj : j < 3) : (enVs ps)[k * 3 + j]? = (enC p)[j]? := by
  rw [← List.getElem?_drop, enVs_drop, List.drop_eq_getElem_cons (List.getElem?_eq_some_iff.1 h).1, (List.getElem?_eq_some_iff.1 h).2, enVs_cons]
  exact List.getElem?_append_left (by rw [enC_length]; exact hj)
theorem enC_one (p : En) : ∀ u ∈ enC p, u.oneCell' = true := by simp [enC, Value.oneCell']
theorem enVs_one (ps : List En) : ∀ u ∈ enVs ps, u.oneCell' = true := by
  intro u hu
  obtain ⟨p, _, hp⟩ := List.mem_flatMap.1 hu
  exact enC_one p u hp
theorem add_nextE (a : Addr) (i j : Nat) (hj : 0 < j) : (⟨(a.add i).block, (a.add i).off + j, none⟩ : Addr) = a.add (i + j) := by
  by_cases hi : i = 0
  · subst hi
    unfold Addr.add
    rw [if_pos rfl, if_neg (by omega), Nat.zero_add]
  · unfold Addr.add
    rw [if_neg hi, if_neg (by omega), Nat.add_assoc]
/-- the three cells of an entry -/
def enAt (w : World) (a : Addr) (p : En) : Prop := w.cell? a = some (.int .i64 p.1) ∧ w.cell? ⟨a.block, a.off + 1, none⟩ = some (.int .i64 p.2.1) ∧ w.cell? ⟨a.block, a.off + 2, none⟩ = some (.int .i64 p.2.2)
theorem enAt.below {w w' : World} {a : Addr} {p : En} {B : Nat} (h : enAt w a p) (hb : Below B w w') (ha : a.block < B) : enAt w' a p :=
  ⟨(hb.cell (p := a) ha).trans h.1, (hb.cell (p := ⟨a.block, a.off + 1, none⟩) ha).trans h.2.1, (hb.cell (p := ⟨a.block, a.off + 2, none⟩) ha).trans h.2.2⟩
/-- an entry of a row -/
theorem SlR.en {w : World} {B n k : Nat} {A : Option Addr} {ps : List En} (h : SlR w B 3 A n (enVs ps)) (hk : k < n) : ∃ ad p, A = some ad ∧ ad.block < B ∧ ps[k]? = some p ∧ enAt w (ad.add (k * 3)) p := by
  obtain ⟨ad, hA, hb, hc⟩ := h.cells (by omega)
  have hl : ps.length = n := by have := h.len; rw [enVs_length] at this; omega
  have hp : ps[k]? = some ps[k] := List.getElem?_eq_getElem (by omega)
  refine ⟨ad, ps[k], hA, hb, hp, ?_, ?_, ?_⟩
  · have := hc (k * 3 + 0) _ (enVs_get ps k 0 _ hp (by omega)); simpa [enC] using this
  · rw [add_nextE _ _ _ (by omega)]; exact hc (k * 3 + 1) _ (enVs_get ps k 1 _ hp (by omega))
  · rw [add_nextE _ _ _ (by omega)]; exact hc (k * 3 + 2) _ (enVs_get ps k 2 _ hp (by omega))

end Go.Proofs.YtfkkcgdniepgoaaGreat

/- '==' between two entries. -/
namespace Go.Proofs.YtfkkcgdniepgoaaGreat
open Go.RowKit
set_option maxHeartbeats 400000
set_option maxRecDepth 100000
set_option linter.unusedVariables false

theorem run_eql_en (w : World) (x y z u v t : Int) : (binOp .eql 53 (.agg #[.int .i64 x, .int .i64 y, .int .i64 z]) (.agg #[.int .i64 u, .int .i64 v, .int .i64 t])).run Tryz.prog w = .ok (.bool ((x == u) && ((y == v) && (z == t)))) w := by
  go_simp
  split
  · split
    · split <;> simp_all
    · simp_all
  · simp_all
end Go.Proofs.YtfkkcgdniepgoaaGreat

/- memtab.Less. -/
namespace Go.Proofs.YtfkkcgdniepgoaaGreat
open Go.RowKit
set_option maxHeartbeats 2000000
set_option maxRecDepth 100000
set_option linter.unusedVariables false

theorem less_any (a b : En) (w : World) : Calls Tryz.prog 33 #[enA a, enA b] w fun x w' => x = .returned (.bool (ltE a b)) ∧ Below w.heap.size w w' := by
  have hc := fun w => compare_any a b w
  have hlt := cmpE_lt a b
  have Hlt := Lib.hid hlt
  clear hlt
  generalize ltE a b = q at Hlt ⊢
  generalize cmpE a b = z at hc Hlt
  obtain ⟨a0, a1, a2⟩ := a
  obtain ⟨b0, b1, b2⟩ := b
  unfold enA at hc ⊢
  dsimp only at hc ⊢
  go_enter Tryz.func33, Tryz.ntmps33
  go_wp2_with fail
  have hb0 := ((Below.refl w.heap.size w).alloc (Nat.le_refl _) (.cells #[.int .i64 a0, .int .i64 a1, .int .i64 a2] 53)).alloc (by simp) (.cells #[.int .i64 b0, .int .i64 b1, .int .i64 b2] 53)
  refine (hc _).mono ?_
  rintro x w1 ⟨rfl, hb1⟩
  have hb2 := hb0.trans (hb1.mono hb0.size)
  go_wp2_with fail
  go_ret
  exact ⟨by rw [← Hlt.out]; rfl, hb2⟩
end Go.Proofs.YtfkkcgdniepgoaaGreat
