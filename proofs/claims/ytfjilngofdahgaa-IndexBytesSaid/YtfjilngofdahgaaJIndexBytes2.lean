/- chapter 12: entries held against each other. -/
import Derived.Test.YtfjilngofdahgaaRows
import Derived.Test.YtfjilngofdahgaaJIndexBytes1
import Derived.RegionTactic
import Derived.Deep.QuietTactic
import Derived.BigQuiet
import Derived.Deep.RegionWith
import Derived.Deep.RegionHeld3

namespace Go.Proofs.Ytfjilngofdahgaa
open Go.RowKit
set_option maxHeartbeats 1000000
set_option maxRecDepth 100000
set_option linter.unusedVariables false

def enC (e : En) : List Value := [.int .i64 e.1, .int .i64 e.2.1, .int .i64 e.2.2]
def enA (e : En) : Value := .agg #[.int .i64 e.1, .int .i64 e.2.1, .int .i64 e.2.2]
def cmpI (a b : Int) : Int := if a < b then -1 else if b < a then 1 else 0
def orI (x y z : Int) : Int := if x ≠ 0 then x else if y ≠ 0 then y else z
def cmpE (a b : En) : Int := orI (cmpI a.1 b.1) (cmpI a.2.1 b.2.1) (cmpI a.2.2 b.2.2)
theorem cmpE_lt (a b : En) : decide (cmpE a b < 0) = ltE a b := by
  unfold cmpE orI cmpI ltE
  rw [decide_eq_decide]
  constructor
  · intro h; (repeat' split at h) <;> omega
  · intro h; (repeat' split) <;> omega
theorem cmpE_eq (a b : En) : decide (cmpE a b = 0) = decide (a = b) := by
  obtain ⟨a1, a2, a3⟩ := a; obtain ⟨b1, b2, b3⟩ := b
  unfold cmpE orI cmpI
  rw [decide_eq_decide]
  simp only [Prod.mk.injEq]
  constructor
  · intro h; (repeat' split at h) <;> omega
  · rintro ⟨rfl, rfl, rfl⟩; simp
theorem cmpE_small (a b : En) : -1 ≤ cmpE a b ∧ cmpE a b ≤ 1 := by
  unfold cmpE orI cmpI
  (repeat' split) <;> omega

theorem cmpInt_any (a b : Int) (w : World) : Calls Try.prog 58 #[.int .i64 a, .int .i64 b] w fun e w' => e = .returned (.int .i64 (cmpI a b)) ∧ w = w' := by
  rcases Int.lt_trichotomy a b with h | h | h
  · have hv : cmpI a b = -1 := by unfold cmpI; rw [if_pos h]
    rw [hv]
    go_enter Try.func58, Try.ntmps58
    go_wp2
    go_ret
    exact ⟨rfl, rfl⟩
  · subst h
    have hv : cmpI a a = 0 := by unfold cmpI; simp
    rw [hv]
    go_enter Try.func58, Try.ntmps58
    go_wp2
    go_ret
    exact ⟨rfl, rfl⟩
  · have hv : cmpI a b = 1 := by unfold cmpI; rw [if_neg (by omega), if_pos h]
    have h2 : ¬ a < b := by omega
    rw [hv]
    go_enter Try.func58, Try.ntmps58
    go_wp2
    go_ret
    exact ⟨rfl, rfl⟩

theorem or_any (x y z : Int) (g : Nat) (w : World) (hB : BlkIs w g 3 #[.int .i64 x, .int .i64 y, .int .i64 z]) : Calls Try.prog 57 #[.slice (some ⟨g, 0, none⟩) 3 3] w fun e w' => e = .returned (.int .i64 (orI x y z)) ∧ w = w' := by
  have hc := hB.cell
  have c0 := hc 0; have c1 := hc 1; have c2 := hc 2
  simp at c0 c1 c2
  clear hc
  by_cases hx : x = 0
  · subst hx
    by_cases hy : y = 0
    · subst hy
      have hv : orI 0 0 z = z := by simp [orI]
      rw [hv]
      by_cases hz : z = 0
      · subst hz
        go_enter Try.func57, Try.ntmps57
        go_wp2
        refine wp_loop_rounds 4 ?_
        rw [rounds_succ]; go_wp2
        rw [rounds_succ]; go_wp2
        rw [rounds_succ]; go_wp2
        rw [rounds_succ]; go_wp2
        go_ret
        exact ⟨rfl, rfl⟩
      · have hz' : (z != 0) = true := by simpa using hz
        clear hz
        go_enter Try.func57, Try.ntmps57
        go_wp2
        refine wp_loop_rounds 3 ?_
        rw [rounds_succ]; go_wp2
        rw [rounds_succ]; go_wp2
        rw [rounds_succ]; go_wp2
        go_ret
        exact ⟨rfl, rfl⟩
    · have hv : orI 0 y z = y := by simp [orI, hy]
      rw [hv]
      have hy' : (y != 0) = true := by simpa using hy
      clear hy
      go_enter Try.func57, Try.ntmps57
      go_wp2
      refine wp_loop_rounds 2 ?_
      rw [rounds_succ]; go_wp2
      rw [rounds_succ]; go_wp2
      go_ret
      exact ⟨rfl, rfl⟩
  · have hv : orI x y z = x := by simp [orI, hx]
    rw [hv]
    have hx' : (x != 0) = true := by simpa using hx
    clear hx
    go_enter Try.func57, Try.ntmps57
    go_wp2
    refine wp_loop_rounds 1 ?_
    rw [rounds_succ]; go_wp2
    go_ret
    exact ⟨rfl, rfl⟩

theorem compare_any (a b : En) (w : World) : Calls Try.prog 35 #[enA a, enA b] w fun e w' => e = .returned (.int .i64 (cmpE a b)) ∧ Below w.heap.size w w' := by
  obtain ⟨a0, a1, a2⟩ := a
  obtain ⟨b0, b1, b2⟩ := b
  unfold enA cmpE
  dsimp only
  obtain ⟨W, hW⟩ : ∃ W, (w.alloc (.cells #[.int .i64 a0, .int .i64 a1, .int .i64 a2] 27)).alloc (.cells #[.int .i64 b0, .int .i64 b1, .int .i64 b2] 27) = W := ⟨_, rfl⟩
  have hA : BlkIs W w.heap.size 27 #[.int .i64 a0, .int .i64 a1, .int .i64 a2] := by rw [← hW]; exact (BlkIs.new _ _ _).alloc _
  have hB : BlkIs W (w.heap.size + 1) 27 #[.int .i64 b0, .int .i64 b1, .int .i64 b2] := by
    rw [← hW]
    have := BlkIs.new (w.alloc (.cells #[.int .i64 a0, .int .i64 a1, .int .i64 a2] 27)) 27 #[.int .i64 b0, .int .i64 b1, .int .i64 b2]
    simpa using this
  have hb : Below w.heap.size w W := by rw [← hW]; exact ((Below.refl _ _).alloc (Nat.le_refl _) _).alloc (by simp) _
  have HA := Lib.hid hA; have HB' := Lib.hid hB; have Hb := Lib.hid hb
  have hS0 : ∀ wx, Below W.heap.size W wx → wx.cell? ⟨w.heap.size, 0, none⟩ = some (.int .i64 a0) ∧ wx.cell? ⟨w.heap.size, 1, none⟩ = some (.int .i64 a1) ∧ wx.cell? ⟨w.heap.size, 2, none⟩ = some (.int .i64 a2) ∧ wx.cell? ⟨w.heap.size + 1, 0, none⟩ = some (.int .i64 b0) ∧ wx.cell? ⟨w.heap.size + 1, 1, none⟩ = some (.int .i64 b1) ∧ wx.cell? ⟨w.heap.size + 1, 2, none⟩ = some (.int .i64 b2) := by
    intro wx h
    have f1 := (hA.below h hA.lt).cell; have f2 := (hB.below h hB.lt).cell
    exact ⟨f1 0, f1 1, f1 2, f2 0, f2 1, f2 2⟩
  have HS := Lib.hid hS0
  clear hA hB hb hS0
  have HB : Below W.heap.size W W := Below.refl _ _
  have hS := HS.out _ HB
  go_enter Try.func35, Try.ntmps35
  go_wp2_with fail
  go_region_held3 (fun wx => wx.cell? ⟨w.heap.size, 0, none⟩ = some (.int .i64 a0) ∧ wx.cell? ⟨w.heap.size, 1, none⟩ = some (.int .i64 a1) ∧ wx.cell? ⟨w.heap.size, 2, none⟩ = some (.int .i64 a2) ∧ wx.cell? ⟨w.heap.size + 1, 0, none⟩ = some (.int .i64 b0) ∧ wx.cell? ⟨w.heap.size + 1, 1, none⟩ = some (.int .i64 b1) ∧ wx.cell? ⟨w.heap.size + 1, 2, none⟩ = some (.int .i64 b2)) (first | exact hS | go_keep) ((first
    | (go_at_call 58; refine (cmpInt_any _ _ _).mono ?_; rintro e wx ⟨rfl, rfl⟩)
    | (go_at_call 57; refine (or_any _ _ _ _ _ (BlkIs.drew (BlkIs.new _ _ _))).mono ?_; rintro e wx ⟨rfl, rfl⟩)))
  all_goals
    go_wp2_with fail
    go_ret
    exact ⟨rfl, Hb.out.trans ((((Below.refl _ _).alloc Hb.out.size _).drew : Below w.heap.size W _))⟩
end Go.Proofs.Ytfjilngofdahgaa

/- chapter 12: the place of an entry, found by halves. -/
namespace Go.Proofs.Ytfjilngofdahgaa
open Go.RowKit
set_option maxHeartbeats 2000000
set_option maxRecDepth 100000
set_option linter.unusedVariables false

def enVs (l : List En) : List Value := l.flatMap enC
theorem enC_length (e : En) : (enC e).length = 3 := rfl
theorem enVs_nil : enVs [] = [] := rfl
theorem enVs_cons (p : En) (ps : List En) : enVs (p :: ps) = enC p ++ enVs ps := rfl
theorem enVs_append (ps qs : List En) : enVs (ps ++ qs) = enVs ps ++ enVs qs := by simp [enVs]
theorem enVs_length (ps : List En) : (enVs ps).length = ps.length * 3 := by
  induction ps with
  | nil => rfl
  | cons p ps ih => rw [enVs_cons, List.length_append, ih, List.length_cons, enC_length]; omega
theorem enVs_drop (ps : List En) (k : Nat) : (enVs ps).drop (k * 3) = enVs (ps.drop k) := by
  induction k generalizing ps with
  | zero => simp
  | succ k ih =>
    cases ps with
    | nil => simp [enVs]
    | cons p ps =>
      rw [enVs_cons, List.drop_succ_cons, ← ih ps, show (k + 1) * 3 = (enC p).length + k * 3 from by rw [enC_length]; omega, List.drop_append]
      simp
theorem enVs_take (ps : List En) (k : Nat) : (enVs ps).take (k * 3) = enVs (ps.take k) := by
  induction k generalizing ps with
  | zero => simp [enVs]
  | succ k ih =>
    cases ps with
    | nil => simp [enVs]
    | cons p ps =>
      rw [enVs_cons, List.take_succ_cons, enVs_cons, ← ih ps, show (k + 1) * 3 = (enC p).length + k * 3 from by rw [enC_length]; omega, List.take_append]
      simp [List.take_of_length_le]
theorem enVs_get (ps : List En) (k j : Nat) (p : En) (h : ps[k]? = some p) (hj : j < 3) : (enVs ps)[k * 3 + j]? = (enC p)[j]? := by
  rw [← List.getElem?_drop, enVs_drop, List.drop_eq_getElem_cons (List.getElem?_eq_some_iff.1 h).1, (List.getElem?_eq_some_iff.1 h).2, enVs_cons]
  exact List.getElem?_append_left (by rw [enC_length]; exact hj)
theorem enC_one (p : En) : ∀ u ∈ enC p, u.oneCell' = true := by simp [enC, Value.oneCell']
theorem enVs_one (ps : List En) : ∀ u ∈ enVs ps, u.oneCell' = true := by
  intro u hu
  obtain ⟨p, _, hp⟩ := List.mem_flatMap.1 hu
  exact enC_one p u hp
theorem add_nextE (a : Addr) (i j : Nat) (hj : 0 < j) : (⟨(a.add i).block, (a.add i).off + j, none⟩ : Addr) = a.add (i + j) := by
  by_cases hi : i = 0
  · subst hi
    unfold Addr.add
    rw [if_pos rfl, if_neg (by omega), Nat.zero_add]
  · unfold Addr.add
    rw [if_neg hi, if_neg (by omega), Nat.add_assoc]
/-- the three cells of an entry -/
def enAt (w : World) (a : Addr) (p : En) : Prop := w.cell? a = some (.int .i64 p.1) ∧ w.cell? ⟨a.block, a.off + 1, none⟩ = some (.int .i64 p.2.1) ∧ w.cell? ⟨a.block, a.off + 2, none⟩ = some (.int .i64 p.2.2)
theorem enAt.below {w w' : World} {a : Addr} {p : En} {B : Nat} (h : enAt w a p) (hb : Below B w w') (ha : a.block < B) : enAt w' a p :=
  ⟨(hb.cell (p := a) ha).trans h.1, (hb.cell (p := ⟨a.block, a.off + 1, none⟩) ha).trans h.2.1, (hb.cell (p := ⟨a.block, a.off + 2, none⟩) ha).trans h.2.2⟩
/-- an entry of a row -/
theorem SlR.en {w : World} {B n k : Nat} {A : Option Addr} {ps : List En} (h : SlR w B 3 A n (enVs ps)) (hk : k < n) : ∃ ad p, A = some ad ∧ ad.block < B ∧ ps[k]? = some p ∧ enAt w (ad.add (k * 3)) p := by
  obtain ⟨ad, hA, hb, hc⟩ := h.cells (by omega)
  have hl : ps.length = n := by have := h.len; rw [enVs_length] at this; omega
  have hp : ps[k]? = some ps[k] := List.getElem?_eq_getElem (by omega)
  refine ⟨ad, ps[k], hA, hb, hp, ?_, ?_, ?_⟩
  · have := hc (k * 3 + 0) _ (enVs_get ps k 0 _ hp (by omega)); simpa [enC] using this
  · rw [add_nextE _ _ _ (by omega)]; exact hc (k * 3 + 1) _ (enVs_get ps k 1 _ hp (by omega))
  · rw [add_nextE _ _ _ (by omega)]; exact hc (k * 3 + 2) _ (enVs_get ps k 2 _ hp (by omega))

theorem search_any (A : Option Addr) (n c B : Nat) (l : List En) (e : En) (w : World) (hr : SlR w B 3 A n (enVs l)) (hB : B ≤ w.heap.size) (hs : SortedE l) (hn : n ≤ 1000000) :
    Calls Try.prog 34 #[.slice A n c, enA e, .func (.func 35) #[] #[]] w fun x w' => x = .returned (.tuple #[.int .i64 (rankE l e : Nat), .bool (hasE l e)]) ∧ Below w.heap.size w w' := by
  have hl : l.length = n := by have := hr.len; rw [enVs_length] at this; omega
  obtain ⟨e0, e1, e2⟩ := e
  obtain ⟨W, hW⟩ : ∃ W, w.alloc (.cells #[.int .i64 e0, .int .i64 e1, .int .i64 e2] 27) = W := ⟨_, rfl⟩
  have hT : BlkIs W w.heap.size 27 #[.int .i64 e0, .int .i64 e1, .int .i64 e2] := by rw [← hW]; exact BlkIs.new _ _ _
  have hb0 : Below w.heap.size w W := by rw [← hW]; exact (Below.refl _ _).alloc (Nat.le_refl _) _
  have hr0 := hr.below (hb0.mono hB)
  have hrk := rank_le l (e0, e1, e2)
  have hrl : ∀ (i : Nat) (x : En), l[i]? = some x → ltE x (e0, e1, e2) = decide (i < rankE l (e0, e1, e2)) := fun i x h => rank_lt hs (e0, e1, e2) h
  have hhas : hasE l (e0, e1, e2) = decide (l[rankE l (e0, e1, e2)]? = some (e0, e1, e2)) := rfl
  unfold enA
  dsimp only
  generalize rankE l (e0, e1, e2) = r at hrk hrl hhas ⊢
  generalize hasE l (e0, e1, e2) = hh at hhas ⊢
  have HT := Lib.hid hT; have Hb0 := Lib.hid hb0; have Hr := Lib.hid hr0; have Hrl := Lib.hid hrl; have Hhas := Lib.hid hhas
  clear hT hb0 hr0 hr hrl hhas hs
  go_enter Try.func34, Try.ntmps34
  go_wp2_with fail
  go_loopw [9, 10] (fun i j wr => ∃ a b : Nat, i = .int .i64 a ∧ j = .int .i64 b ∧ a ≤ r ∧ r ≤ b ∧ b ≤ n ∧ Below W.heap.size W wr) (fun i j _ => (intOf j - intOf i).toNat)
  case atStart => exact ⟨0, n, rfl, rfl, by omega, by omega, by omega, by first | exact Below.refl _ _ | (rw [hW]; exact Below.refl _ _)⟩
  case round =>
    obtain ⟨a, b, rfl, rfl, ha, hb, hbn, hbe⟩ := hrel
    by_cases hlt : a < b
    · have hab : (a : Int) < b := by omega
      obtain ⟨q, hq, hq1, hq2⟩ : ∃ q : Nat, ((a : Int) + b) / 2 = (q : Int) ∧ a ≤ q ∧ q < b := ⟨(a + b) / 2, by omega, by omega, by omega⟩
      obtain ⟨ad, ⟨p0, p1, p2⟩, rfl, hadB, hpq, hat⟩ := Hr.out.en (k := q) (by omega)
      have hS0 : ∀ wx, Below W.heap.size W wx → wx.cell? (ad.add (q * 3)) = some (.int .i64 p0) ∧ wx.cell? ⟨(ad.add (q * 3)).block, (ad.add (q * 3)).off + 1, none⟩ = some (.int .i64 p1) ∧ wx.cell? ⟨(ad.add (q * 3)).block, (ad.add (q * 3)).off + 2, none⟩ = some (.int .i64 p2) ∧ wx.cell? ⟨w.heap.size, 0, none⟩ = some (.int .i64 e0) ∧ wx.cell? ⟨w.heap.size, 1, none⟩ = some (.int .i64 e1) ∧ wx.cell? ⟨w.heap.size, 2, none⟩ = some (.int .i64 e2) := by
        intro wx h
        have f1 := hat.below h (by rw [add_block]; exact Nat.lt_of_lt_of_le hadB (Nat.le_trans hB Hb0.out.size)); have f2 := (HT.out.below h HT.out.lt).cell
        exact ⟨f1.1, f1.2.1, f1.2.2, f2 0, f2 1, f2 2⟩
      have hlt2 := Hrl.out q _ hpq
      have hcl := cmpE_lt (p0, p1, p2) (e0, e1, e2)
      have hcs := cmpE_small (p0, p1, p2) (e0, e1, e2)
      have HS := Lib.hid hS0; have Hb' := Lib.hid hbe
      have hcmp := fun w => compare_any (p0, p1, p2) (e0, e1, e2) w
      obtain ⟨cv, hcv⟩ : ∃ cv, cmpE (p0, p1, p2) (e0, e1, e2) = cv := ⟨_, rfl⟩
      rw [hcv] at hcmp hcl hcs
      rw [hlt2] at hcl
      unfold enA at hcmp
      dsimp only at hcmp
      have Hcmp := Lib.hid hcmp
      clear hS0 hat hlt2 hcv hcmp hpq
      have HB := hbe
      have hS := HS.out _ HB
      have hqi : (q : Int) < n := by omega
      go_wp2_with fail
      by_cases hqr : q < r
      · rw [decide_eq_true hqr] at hcl
        go_region_held3 (fun wx => wx.cell? (ad.add (q * 3)) = some (.int .i64 p0) ∧ wx.cell? ⟨(ad.add (q * 3)).block, (ad.add (q * 3)).off + 1, none⟩ = some (.int .i64 p1) ∧ wx.cell? ⟨(ad.add (q * 3)).block, (ad.add (q * 3)).off + 2, none⟩ = some (.int .i64 p2) ∧ wx.cell? ⟨w.heap.size, 0, none⟩ = some (.int .i64 e0) ∧ wx.cell? ⟨w.heap.size, 1, none⟩ = some (.int .i64 e1) ∧ wx.cell? ⟨w.heap.size, 2, none⟩ = some (.int .i64 e2)) (first | exact hS | go_keep) ((first
          | (go_at_call 35; refine (Hcmp.out _).mono ?_; rintro x wx ⟨rfl, hb⟩; have HB := HB.trans ((by first | exact hb | exact below_undrew hb : Below _ _ _).mono HB.size); have hS := HS.out _ HB)))
        all_goals
          go_wp2_with fail
          go_roundw
          case rel => exact ⟨q + 1, b, rfl, rfl, by omega, by omega, by omega, (by first | exact HB | exact below_drewN HB 1)⟩
          case measure => simp [intOf]; omega
      · rw [decide_eq_false hqr] at hcl
        go_region_held3 (fun wx => wx.cell? (ad.add (q * 3)) = some (.int .i64 p0) ∧ wx.cell? ⟨(ad.add (q * 3)).block, (ad.add (q * 3)).off + 1, none⟩ = some (.int .i64 p1) ∧ wx.cell? ⟨(ad.add (q * 3)).block, (ad.add (q * 3)).off + 2, none⟩ = some (.int .i64 p2) ∧ wx.cell? ⟨w.heap.size, 0, none⟩ = some (.int .i64 e0) ∧ wx.cell? ⟨w.heap.size, 1, none⟩ = some (.int .i64 e1) ∧ wx.cell? ⟨w.heap.size, 2, none⟩ = some (.int .i64 e2)) (first | exact hS | go_keep) ((first
          | (go_at_call 35; refine (Hcmp.out _).mono ?_; rintro x wx ⟨rfl, hb⟩; have HB := HB.trans ((by first | exact hb | exact below_undrew hb : Below _ _ _).mono HB.size); have hS := HS.out _ HB)))
        all_goals
          go_wp2_with fail
          go_roundw
          case rel => exact ⟨a, q, rfl, rfl, by omega, by omega, by omega, (by first | exact HB | exact below_drewN HB 1)⟩
          case measure => simp [intOf]; omega
    · obtain rfl : a = r := by omega
      obtain rfl : b = a := by omega
      have hab : decide ((b : Int) < b) = false := by simp
      by_cases hbn' : b < n
      · obtain ⟨ad, ⟨p0, p1, p2⟩, rfl, hadB, hpq, hat⟩ := Hr.out.en (k := b) hbn'
        have hS0 : ∀ wx, Below W.heap.size W wx → wx.cell? (ad.add (b * 3)) = some (.int .i64 p0) ∧ wx.cell? ⟨(ad.add (b * 3)).block, (ad.add (b * 3)).off + 1, none⟩ = some (.int .i64 p1) ∧ wx.cell? ⟨(ad.add (b * 3)).block, (ad.add (b * 3)).off + 2, none⟩ = some (.int .i64 p2) ∧ wx.cell? ⟨w.heap.size, 0, none⟩ = some (.int .i64 e0) ∧ wx.cell? ⟨w.heap.size, 1, none⟩ = some (.int .i64 e1) ∧ wx.cell? ⟨w.heap.size, 2, none⟩ = some (.int .i64 e2) := by
          intro wx h
          have f1 := hat.below h (by rw [add_block]; exact Nat.lt_of_lt_of_le hadB (Nat.le_trans hB Hb0.out.size)); have f2 := (HT.out.below h HT.out.lt).cell
          exact ⟨f1.1, f1.2.1, f1.2.2, f2 0, f2 1, f2 2⟩
        have hce := cmpE_eq (p0, p1, p2) (e0, e1, e2)
        have hcs := cmpE_small (p0, p1, p2) (e0, e1, e2)
        have hhas := Hhas.out
        rw [hpq] at hhas
        have hhas2 : hh = decide (((p0, p1, p2) : En) = (e0, e1, e2)) := by rw [hhas]; simp
        rw [← hhas2] at hce
        have HS := Lib.hid hS0; have Hb' := Lib.hid hbe
        have hcmp := fun w => compare_any (p0, p1, p2) (e0, e1, e2) w
        obtain ⟨cv, hcv⟩ : ∃ cv, cmpE (p0, p1, p2) (e0, e1, e2) = cv := ⟨_, rfl⟩
        rw [hcv] at hcmp hce hcs
        unfold enA at hcmp
        dsimp only at hcmp
        have Hcmp := Lib.hid hcmp; have Hce := Lib.hid hce
        clear hS0 hat hcv hcmp hpq hhas hhas2 hce
        have HB := hbe
        have hS := HS.out _ HB
        have hqi : (b : Int) < n := by omega
        go_wp2_with fail
        go_region_held3 (fun wx => wx.cell? (ad.add (b * 3)) = some (.int .i64 p0) ∧ wx.cell? ⟨(ad.add (b * 3)).block, (ad.add (b * 3)).off + 1, none⟩ = some (.int .i64 p1) ∧ wx.cell? ⟨(ad.add (b * 3)).block, (ad.add (b * 3)).off + 2, none⟩ = some (.int .i64 p2) ∧ wx.cell? ⟨w.heap.size, 0, none⟩ = some (.int .i64 e0) ∧ wx.cell? ⟨w.heap.size, 1, none⟩ = some (.int .i64 e1) ∧ wx.cell? ⟨w.heap.size, 2, none⟩ = some (.int .i64 e2)) (first | exact hS | go_keep) ((first
          | (go_at_call 35; refine (Hcmp.out _).mono ?_; rintro x wx ⟨rfl, hb⟩; have HB := HB.trans ((by first | exact hb | exact below_undrew hb : Below _ _ _).mono HB.size); have hS := HS.out _ HB)))
        all_goals
          go_wp2_with fail
          go_ret2
          refine ⟨?_, ?_⟩
          · rw [← Hce.out]
            rw [show (cv == 0) = decide (cv = 0) from by rw [Bool.eq_iff_iff]; simp]
            rfl
          · exact Hb0.out.trans ((by first | exact HB | exact below_drewN HB 1 : Below W.heap.size W _).mono Hb0.out.size)
      · have hbn2 : decide (b < n) = false := by simp; omega
        have hh0 : hh = false := by rw [Hhas.out, List.getElem?_eq_none (by omega)]; simp
        subst hh0
        clear hlt hbn'
        have Hbe := Lib.hid hbe
        go_wp2_with fail
        go_quiet (fail)
        go_wp2_with fail
        go_ret2
        exact ⟨rfl, Hb0.out.trans ((below_drewN Hbe.out _).mono Hb0.out.size)⟩
end Go.Proofs.Ytfjilngofdahgaa

/- memtab.Less. -/
namespace Go.Proofs.Ytfjilngofdahgaa
open Go.RowKit
set_option maxHeartbeats 2000000
set_option maxRecDepth 100000
set_option linter.unusedVariables false

theorem less_any (a b : En) (w : World) : Calls Try.prog 72 #[enA a, enA b] w fun x w' => x = .returned (.bool (ltE a b)) ∧ Below w.heap.size w w' := by
  have hc := fun w => compare_any a b w
  have hlt := cmpE_lt a b
  have Hlt := Lib.hid hlt
  clear hlt
  generalize ltE a b = q at Hlt ⊢
  generalize cmpE a b = z at hc Hlt
  obtain ⟨a0, a1, a2⟩ := a
  obtain ⟨b0, b1, b2⟩ := b
  unfold enA at hc ⊢
  dsimp only at hc ⊢
  go_enter Try.func72, Try.ntmps72
  go_wp2_with fail
  have hb0 := ((Below.refl w.heap.size w).alloc (Nat.le_refl _) (.cells #[.int .i64 a0, .int .i64 a1, .int .i64 a2] 27)).alloc (by simp) (.cells #[.int .i64 b0, .int .i64 b1, .int .i64 b2] 27)
  refine (hc _).mono ?_
  rintro x w1 ⟨rfl, hb1⟩
  have hb2 := hb0.trans (hb1.mono hb0.size)
  go_wp2_with fail
  go_ret
  exact ⟨by rw [← Hlt.out]; rfl, hb2⟩
end Go.Proofs.Ytfjilngofdahgaa
