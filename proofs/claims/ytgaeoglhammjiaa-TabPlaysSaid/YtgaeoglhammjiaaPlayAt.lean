/- chapter 12: what a law's plays keep: the tab, the document's list, the book. -/
import Derived.Test.YtgaeoglhammjiaaBookIE
import Derived.Test.YtgaeoglhammjiaaTabAlive
import Derived.Test.YtgaeoglhammjiaaTabCut
import Derived.Test.YtgaeoglhammjiaaRef12b
import Derived.Test.YtgaeoglhammjiaaRef12c
import Derived.Test.YtgaeoglhammjiaaPlain12
import Derived.Test.YtgaeoglhammjiaaEnLent
namespace Go.Proofs.Ytgaeoglhammjiaa
open Go.RowKit
set_option maxHeartbeats 2000000
set_option maxRecDepth 100000
set_option linter.unusedVariables false

theorem run_neq_en (w : World) (x y z u v t : Int) : (binOp .neq 26 (.agg #[.int .i64 x, .int .i64 y, .int .i64 z]) (.agg #[.int .i64 u, .int .i64 v, .int .i64 t])).run Try.prog w = .ok (.bool (!((x == u) && ((y == v) && (z == t))))) w := by
  go_simp
  split
  · split
    · split <;> simp_all
    · simp_all
  · simp_all

/-- something that is done: which, to where, entries -/
structure OpE where
  kind : Int
  num : Int
  A : Option Addr
  m : Nat
  c : Nat
  l : List En
def opC (o : OpE) : List Value := [.int .i64 o.kind, .int .i64 o.num, .slice o.A o.m o.c]
def opVs (os : List OpE) : List Value := os.flatMap opC
def OpE.ok (W : World) (o : OpE) : Prop := o.l.length = o.m ∧ SlR W W.heap.size 3 o.A o.m (enVs o.l) ∧ o.m ≤ o.c ∧ o.m ≤ 9223372036854775807
theorem opVs_length (os : List OpE) : (opVs os).length = os.length * 3 := by
  induction os with
  | nil => rfl
  | cons o os ih => rw [opVs, List.flatMap_cons, List.length_append, ← opVs, ih, List.length_cons]; simp only [opC, List.length_cons, List.length_nil]; omega
theorem opVs_get : ∀ (os : List OpE) (k j : Nat) (o : OpE), os[k]? = some o → j < 3 → (opVs os)[k * 3 + j]? = (opC o)[j]?
  | [], k, j, o, h, _ => by simp at h
  | p :: os, 0, j, o, h, hj => by
    simp at h; subst h
    rw [opVs, List.flatMap_cons, Nat.zero_mul, Nat.zero_add, List.getElem?_append_left (by simp [opC]; omega)]
  | p :: os, k + 1, j, o, h, hj => by
    have h' : os[k]? = some o := by simpa using h
    rw [opVs, List.flatMap_cons, List.getElem?_append_right (by simp only [opC, List.length_cons, List.length_nil]; omega), ← opVs, ← opVs_get os k j o h' hj]
    congr 1
    simp only [opC, List.length_cons, List.length_nil]; omega
theorem SlR.op {w : World} {B n k : Nat} {A : Option Addr} {os : List OpE} (h : SlR w B 3 A n (opVs os)) (hk : k < n) : ∃ ad o, A = some ad ∧ ad.block < B ∧ os[k]? = some o ∧ w.cell? (ad.add (k * 3)) = some (.int .i64 o.kind) ∧ w.cell? ⟨(ad.add (k * 3)).block, (ad.add (k * 3)).off + 1, none⟩ = some (.int .i64 o.num) ∧ w.cell? ⟨(ad.add (k * 3)).block, (ad.add (k * 3)).off + 2, none⟩ = some (.slice o.A o.m o.c) := by
  obtain ⟨ad, hA, hb, hc⟩ := h.cells (by omega)
  have hl : os.length = n := by have := h.len; rw [opVs_length] at this; omega
  have hp : os[k]? = some os[k] := List.getElem?_eq_getElem (by omega)
  refine ⟨ad, os[k], hA, hb, hp, ?_, ?_, ?_⟩
  · have := hc (k * 3 + 0) _ (opVs_get os k 0 _ hp (by omega)); simpa [opC] using this
  · rw [add_nextE _ _ _ (by omega)]; exact hc (k * 3 + 1) _ (opVs_get os k 1 _ hp (by omega))
  · rw [add_nextE _ _ _ (by omega)]; exact hc (k * 3 + 2) _ (opVs_get os k 2 _ hp (by omega))

theorem cutE_sorted {l : List En} (h : SortedE l) (p : Int) : SortedE (cutE l p) := List.Pairwise.sublist List.filter_sublist h

/-- what a tab's step may turn -/
theorem tab_below {w w' : World} {B T : Nat} {r r' : Option Nat} {l : List En} (ht : TabIs w B T r l) (hT : B ≤ T) (hs : TabStep w w' T r r') : BelowS (fun b => b = T ∨ r = some b) B w w' := by
  refine ⟨⟨hs.os, hs.tape, hs.output, hs.size, fun k hk => ?_⟩, fun g hg hn => hs.block g hg (fun e => hn (.inl e)) (fun e => hn (.inr e.symm))⟩
  have h1 := ht.lt
  by_cases hkw : k < w.heap.size
  · exact hs.block k hkw (by omega) (fun e => by have := (ht.row_lt k e.symm).1; omega)
  · omega
theorem tab_own {w w' : World} {B T b c n : Nat} {e : TypeId} {r r' : Option Nat} {l : List En} {v : Value} {xs : List Value} (ht : TabIs w B T r l) (hT : B ≤ T) (hs : TabStep w w' T r r') (h : w.ownsRow b e c v n xs) (h1 : e ≠ 71) (h2 : e ≠ 26) : w'.ownsRow b e c v n xs := by
  obtain ⟨x, k1, k2, k3, k4⟩ := ht
  refine own_keepS h (tab_below ⟨x, k1, k2, k3, k4⟩ hT hs) (fun q hq hS => ?_)
  rcases hS with rfl | hS
  · exact own_ne_blk h k1 h1 hq
  · exact rows_apart h k2 h2 q hq (k3.trans hS)

theorem BookAt.tab {w0 w w' : World} {B0 g base nI nE H T : Nat} {r r' : Option Nat} {l : List En} (h : BookAt w0 w B0 g base nI nE H (fun b => r = some b)) (ht : TabIs w B0 T r l) (hT : B0 ≤ T) (hs : TabStep w w' T r r') (hH : H ≤ w.heap.size) : BookAt w0 w' B0 g base nI nE w'.heap.size (fun b => r' = some b) := by
  have hS := tab_below ht hT hs
  obtain ⟨x, t1, t2, t3, t4⟩ := id ht
  obtain ⟨tI, wI, tE, wE, vI, uI, vE, uE, xI, xE, h1, h2, h3, h4, h5, h6, h7, h8⟩ := h.ex
  have hne : ∀ (e : TypeId) (c n b : Nat) (v : Value) (xs : List Value), e ≠ 71 → e ≠ 26 → w.ownsRow b e c v n xs → ∀ q, v.ownBlock = some q → ¬ (q = T ∨ r = some q) := fun e c n b v xs he1 he2 ho q hq hS => by
    rcases hS with rfl | hS
    · exact own_ne_blk ho t1 he1 hq
    · exact rows_apart ho t2 he2 q hq (t3.trans hS)
  have hlE : ∀ (us : List Value) (yss : List (List Value)), Lists w base 26 3 us yss → (∀ (i : Nat) (u : Value) (b : Nat), us[i]? = some u → u.ownBlock = some b → ¬ r = some b) → Lists w' base 26 3 us yss := fun us yss hL hn => hL.keepS hS (fun i v q hv hq hS => by
    rcases hS with h9 | h9
    · obtain ⟨xs, hx⟩ := get_of_len hL.len hv
      obtain ⟨n, ho⟩ := hL.own i v xs hv hx
      subst h9
      exact own_ne_blk ho t1 (by decide) hq
    · exact hn i v q hv hq h9)
  refine ⟨⟨tI, wI, tE, wE, vI, uI, vE, uE, xI, xE, blk_keepS h1 hS (fun hS => ?_), h2.keepS hS (fun e c n b v xs he ho => hne e c n b v xs (by rcases he with rfl | rfl <;> decide) (by rcases he with rfl | rfl <;> decide) ho), ⟨own_keepS h3.rt hS (hne _ _ _ _ _ _ (by decide) (by decide) h3.rt), own_keepS h3.rw hS (hne _ _ _ _ _ _ (by decide) (by decide) h3.rw), h3.ap, hlE vE xE h3.lv (fun i u b hu hb => h8 i u b (.inl hu) hb), hlE uE xE h3.lw (fun i u b hu hb => h8 i u b (.inr hu) hb), h3.form, h3.few⟩, h4, h5, fun i u b hu hb => Nat.lt_of_lt_of_le (h6 i u b hu hb) (Nat.le_trans hH hs.size), fun i u b hu hb => Nat.lt_of_lt_of_le (h7 i u b hu hb) (Nat.le_trans hH hs.size), fun i u b hu hb hr => ?_⟩, h.bel.trans hS.below, h.lo, h.gb, Nat.le_trans h.size hs.size⟩
  · rcases hS with h9 | h9
    · subst h9
      have := h1.symm.trans t1
      injection this with this
      injection this with _ ht9
      exact absurd ht9 (by decide)
    · exact own_ne_blk t2 h1 (by decide) (t3.trans h9)
  · rcases hs.row with h9 | ⟨q, h9, h10⟩
    · exact h8 i u b hu hb (h9 ▸ hr)
    · have hq : q = b := by have := h9.symm.trans hr; injection this
      subst hq
      rcases hu with hu | hu
      · have := (h3.lv.lt hu hb).2; omega
      · have := (h3.lw.lt hu hb).2; omega

/-- where the play stands -/
structure PlayAt (W w : World) (G T : Nat) (r : Option Nat) (L : List En) (u : Value) (nI nE : Nat) : Prop where
  tab : TabIs w W.heap.size T r L
  lo : W.heap.size ≤ T
  sorted : SortedE L
  ref : w.ownsRow W.heap.size 58 3 u L.length (enVs L)
  book : BookAt W w W.heap.size G (G + 1) nI nE w.heap.size (fun b => r = some b)
theorem PlayAt.under {W w w' : World} {G T nI nE : Nat} {r : Option Nat} {L : List En} {u : Value} (h : PlayAt W w G T r L u nI nE) (hb : Below w.heap.size w w') : PlayAt W w' G T r L u nI nE :=
  ⟨h.tab.below hb, h.lo, h.sorted, own_below h.ref hb (fun q hq => (h.ref.lt q hq).2), (h.book.under hb).far hb.size⟩
theorem PlayAt.step {W w w' : World} {G T nI nE : Nat} {r r' : Option Nat} {L L' : List En} {u u' : Value} (h : PlayAt W w G T r L u nI nE) (ht : TabIs w' W.heap.size T r' L') (hs : TabStep w w' T r r') (hS : SortedE L') (hr : w.ownsRow W.heap.size 58 3 u' L'.length (enVs L')) : PlayAt W w' G T r' L' u' nI nE :=
  ⟨ht, h.lo, hS, tab_own h.tab h.lo hs hr (by decide) (by decide), h.book.tab h.tab h.lo hs (Nat.le_refl _)⟩
theorem TabIs.spare {w w' : World} {g base T : Nat} {t : TypeId} {r : Option Nat} {l : List En} (h : TabIs w base T r l) (hs : Spares w w' g t) (h1 : 71 ≠ t) (h2 : 26 ≠ t) : TabIs w' base T r l := by
  obtain ⟨v, k1, k2, k3, k4⟩ := h
  exact ⟨v, hs.blk _ _ _ h1 (by decide) k1, hs.own _ _ _ _ _ _ h2 (by decide) k2, k3, k4⟩
end Go.Proofs.Ytgaeoglhammjiaa
