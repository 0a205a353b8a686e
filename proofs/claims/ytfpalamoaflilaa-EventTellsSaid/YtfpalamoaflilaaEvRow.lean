/- chapter 7: events as values, rows of events. -/
import Derived.Test.YtfpalamoaflilaaEvLaw
import Derived.Test.YtfpalamoaflilaaSlice
namespace Go.Proofs.Ytfpalamoaflilaa
open Go.RowKit
set_option maxHeartbeats 1000000
set_option linter.unusedVariables false

theorem run_store_flt (P : Program) (w : World) (a : Addr) (k : FloatKind) (b : Nat) (m : Mode) : (store a (.float k b) m).run P w = stored P w a (.float k b) m := run_store P w a _ m rfl
def evC (e : Ev) : List Value := [.int .i64 e.id, .string e.ty, .string e.da, .float .f64 e.va]
def evA (e : Ev) : Value := .agg #[.int .i64 e.id, .string e.ty, .string e.da, .float .f64 e.va]
def evVs (l : List Ev) : List Value := l.flatMap evC
theorem evC_length (e : Ev) : (evC e).length = 4 := rfl
theorem evVs_nil : evVs [] = [] := rfl
theorem evVs_cons (p : Ev) (ps : List Ev) : evVs (p :: ps) = evC p ++ evVs ps := rfl
theorem evVs_append (ps qs : List Ev) : evVs (ps ++ qs) = evVs ps ++ evVs qs := by simp [evVs]
theorem evVs_length (ps : List Ev) : (evVs ps).length = ps.length * 4 := by
  induction ps with
  | nil => rfl
  | cons p ps ih => rw [evVs_cons, List.length_append, ih, List.length_cons, evC_length]; omega
theorem evVs_drop (ps : List Ev) (k : Nat) : (evVs ps).drop (k * 4) = evVs (ps.drop k) := by
  induction k generalizing ps with
  | zero => simp
  | succ k ih =>
    cases ps with
    | nil => simp [evVs]
    | cons p ps =>
      rw [evVs_cons, List.drop_succ_cons, ← ih ps, show (k + 1) * 4 = (evC p).length + k * 4 from by rw [evC_length]; omega, List.drop_append]
      simp
theorem evVs_take (ps : List Ev) (k : Nat) : (evVs ps).take (k * 4) = evVs (ps.take k) := by
  induction k generalizing ps with
  | zero => simp [evVs]
  | succ k ih =>
    cases ps with
    | nil => simp [evVs]
    | cons p ps =>
      rw [evVs_cons, List.take_succ_cons, evVs_cons, ← ih ps, show (k + 1) * 4 = (evC p).length + k * 4 from by rw [evC_length]; omega, List.take_append]
      simp [List.take_of_length_le]
theorem evVs_get (ps : List Ev) (k j : Nat) (p : Ev) (h : ps[k]? = some p) (hj : j < 4) : (evVs ps)[k * 4 + j]? = (evC p)[j]? := by
  rw [← List.getElem?_drop, evVs_drop, List.drop_eq_getElem_cons (List.getElem?_eq_some_iff.1 h).1, (List.getElem?_eq_some_iff.1 h).2, evVs_cons]
  exact List.getElem?_append_left (by rw [evC_length]; exact hj)
theorem evC_one (p : Ev) : ∀ u ∈ evC p, u.oneCell' = true := by simp [evC, Value.oneCell']
theorem evVs_one (ps : List Ev) : ∀ u ∈ evVs ps, u.oneCell' = true := by
  intro u hu
  obtain ⟨p, _, hp⟩ := List.mem_flatMap.1 hu
  exact evC_one p u hp
theorem add_nextV (a : Addr) (i j : Nat) (hj : 0 < j) : (⟨(a.add i).block, (a.add i).off + j, none⟩ : Addr) = a.add (i + j) := by
  by_cases hi : i = 0
  · subst hi
    unfold Addr.add
    rw [if_pos rfl, if_neg (by omega), Nat.zero_add]
  · unfold Addr.add
    rw [if_neg hi, if_neg (by omega), Nat.add_assoc]
/-- the four cells of an event -/
def evAt (w : World) (a : Addr) (p : Ev) : Prop := w.cell? a = some (.int .i64 p.id) ∧ w.cell? ⟨a.block, a.off + 1, none⟩ = some (.string p.ty) ∧ w.cell? ⟨a.block, a.off + 2, none⟩ = some (.string p.da) ∧ w.cell? ⟨a.block, a.off + 3, none⟩ = some (.float .f64 p.va)
theorem evAt.below {w w' : World} {a : Addr} {p : Ev} {B : Nat} (h : evAt w a p) (hb : Below B w w') (ha : a.block < B) : evAt w' a p :=
  ⟨(hb.cell (p := a) ha).trans h.1, (hb.cell (p := ⟨a.block, a.off + 1, none⟩) ha).trans h.2.1, (hb.cell (p := ⟨a.block, a.off + 2, none⟩) ha).trans h.2.2.1, (hb.cell (p := ⟨a.block, a.off + 3, none⟩) ha).trans h.2.2.2⟩
/-- an event of a row -/
theorem SlR.ev {w : World} {B n k : Nat} {A : Option Addr} {ps : List Ev} (h : SlR w B 4 A n (evVs ps)) (hk : k < n) : ∃ ad p, A = some ad ∧ ad.block < B ∧ ps[k]? = some p ∧ evAt w (ad.add (k * 4)) p := by
  obtain ⟨ad, hA, hb, hc⟩ := h.cells (by omega)
  have hl : ps.length = n := by have := h.len; rw [evVs_length] at this; omega
  have hp : ps[k]? = some ps[k] := List.getElem?_eq_getElem (by omega)
  refine ⟨ad, ps[k], hA, hb, hp, ?_, ?_, ?_, ?_⟩
  · have := hc (k * 4 + 0) _ (evVs_get ps k 0 _ hp (by omega)); simpa [evC] using this
  · rw [add_nextV _ _ _ (by omega)]; exact hc (k * 4 + 1) _ (evVs_get ps k 1 _ hp (by omega))
  · rw [add_nextV _ _ _ (by omega)]; exact hc (k * 4 + 2) _ (evVs_get ps k 2 _ hp (by omega))
  · rw [add_nextV _ _ _ (by omega)]; exact hc (k * 4 + 3) _ (evVs_get ps k 3 _ hp (by omega))
end Go.Proofs.Ytfpalamoaflilaa
