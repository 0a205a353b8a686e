/- chapter 12: two tabs side by side, and blocks that are neither's. -/
import Derived.Test.YtgaeoglhammjiaaTabAlive
namespace Go.Proofs.Ytgaeoglhammjiaa
open Go.RowKit
set_option maxHeartbeats 2000000
set_option linter.unusedVariables false

/-- of another tab nothing is turned -/
theorem TabIs.other {w w' : World} {base T T2 : Nat} {r r' r2 : Option Nat} {l : List En} (h : TabIs w base T2 r2 l) (hs : TabStep w w' T r r') (h1 : T2 ≠ T) (h2 : r ≠ some T2) (h3 : r2 ≠ some T) (h4 : ∀ q, r2 = some q → r ≠ some q) : TabIs w' base T2 r2 l := by
  have hlt := h.lt
  have hrl := h.row_lt
  obtain ⟨v, k1, k2, k3, k4⟩ := h
  refine ⟨v, (hs.block T2 hlt h1 (fun e => h2 e.symm)).trans k1, ⟨k2.1, ?_⟩, k3, k4⟩
  rcases k2.2 with k5 | ⟨g', cap, cur, hv, hb, hh, rest⟩
  · exact .inl k5
  · have hg : r2 = some g' := by rw [← k3, hv]; rfl
    exact .inr ⟨g', cap, cur, hv, hb, (hs.block g' (hrl g' hg).2 (fun e => h3 (by rw [hg, e])) (fun e => h4 g' hg e.symm)).trans hh, rest⟩

theorem TabIs.weak {w : World} {b1 b2 T : Nat} {r : Option Nat} {l : List En} (h : TabIs w b1 T r l) (hb : b2 ≤ b1) : TabIs w b2 T r l := by
  obtain ⟨v, k1, k2, k3, k4⟩ := h
  exact ⟨v, k1, own_mono k2 hb, k3, k4⟩

structure Duo (W w : World) (Av : Nat → Prop) (T1 : Nat) (r1 : Option Nat) (l1 : List En) (T2 : Nat) (r2 : Option Nat) (l2 : List En) : Prop where
  a : TabAt W w T1 r1 l1
  b : TabAt W w T2 r2 l2
  tt : T1 ≠ T2
  t1 : r2 ≠ some T1
  t2 : r1 ≠ some T2
  rr : ∀ q, r1 = some q → r2 ≠ some q
  av : ∀ q, Av q → q ≠ T1 ∧ q ≠ T2 ∧ r1 ≠ some q ∧ r2 ≠ some q ∧ q < w.heap.size
section
variable {W w w' : World} {Av : Nat → Prop} {T1 T2 : Nat} {r1 r2 r' : Option Nat} {l1 l2 l' : List En}
theorem Duo.swap (h : Duo W w Av T1 r1 l1 T2 r2 l2) : Duo W w Av T2 r2 l2 T1 r1 l1 :=
  ⟨h.b, h.a, Ne.symm h.tt, h.t2, h.t1, fun q h1 h2 => h.rr q h2 h1, fun q hq => ⟨(h.av q hq).2.1, (h.av q hq).1, (h.av q hq).2.2.2.1, (h.av q hq).2.2.1, (h.av q hq).2.2.2.2⟩⟩
theorem Duo.step (h : Duo W w Av T1 r1 l1 T2 r2 l2) (hi : TabIs w' W.heap.size T1 r' l') (hs : TabStep w w' T1 r1 r') : Duo W w' Av T1 r' l' T2 r2 l2 ∧ ∀ b, Av b → w'.heap[b]? = w.heap[b]? := by
  have hrow : ∀ q, q < w.heap.size → r1 ≠ some q → r' ≠ some q := fun q hq hn e => by
    rcases hs.row with h1 | ⟨g, h1, h2⟩
    · exact hn (h1 ▸ e)
    · rw [h1] at e; injection e with e; omega
  have hT2 := h.b.is.lt
  have ha := h.a.step hi hs
  have hbel : Below W.heap.size w w' := ⟨hs.os, hs.tape, hs.output, hs.size, fun k hk => hs.block k (Nat.lt_of_lt_of_le hk h.a.bel.size) (by have := h.a.lo; omega) (by
    intro e
    have := (h.a.is.row_lt k e.symm).1
    omega)⟩
  refine ⟨⟨ha, ⟨h.b.is.other hs (Ne.symm h.tt) h.t2 h.t1 (fun q h1 h2 => h.rr q h2 h1), h.b.lo, h.b.bel.trans hbel⟩, h.tt, h.t1, hrow T2 hT2 h.t2, fun q h1 h2 => ?_, fun q hq => ?_⟩, fun b hb => ?_⟩
  · exact hrow q (h.b.is.row_lt q h2).2 (fun e => h.rr q e h2) h1
  · obtain ⟨a1, a2, a3, a4, a5⟩ := h.av q hq
    exact ⟨a1, a2, hrow q a5 a3, a4, Nat.lt_of_lt_of_le a5 hs.size⟩
  · obtain ⟨a1, a2, a3, a4, a5⟩ := h.av b hb
    exact hs.block b a5 a1 (fun e => a3 e.symm)
theorem Duo.under (h : Duo W w Av T1 r1 l1 T2 r2 l2) (hb : Below w.heap.size w w') : Duo W w' Av T1 r1 l1 T2 r2 l2 :=
  ⟨h.a.under hb, h.b.under hb, h.tt, h.t1, h.t2, h.rr, fun q hq => by obtain ⟨a1, a2, a3, a4, a5⟩ := h.av q hq; exact ⟨a1, a2, a3, a4, Nat.lt_of_lt_of_le a5 hb.size⟩⟩
/-- blocks made behind w are neither's -/
theorem Duo.avoid (h : Duo W w Av T1 r1 l1 T2 r2 l2) (hb : Below w.heap.size w w') (Bv : Nat → Prop) (hB : ∀ b, Bv b → (Av b ∨ w.heap.size ≤ b) ∧ b < w'.heap.size) : Duo W w' Bv T1 r1 l1 T2 r2 l2 := by
  have h' := h.under hb
  refine ⟨h'.a, h'.b, h'.tt, h'.t1, h'.t2, h'.rr, fun q hq => ?_⟩
  obtain ⟨c1, c2⟩ := hB q hq
  rcases c1 with c1 | c1
  · obtain ⟨a1, a2, a3, a4, a5⟩ := h.av q c1
    exact ⟨a1, a2, a3, a4, c2⟩
  · have := h.a.is.lt; have := h.b.is.lt
    exact ⟨by omega, by omega, fun e => by have := (h.a.is.row_lt q e).2; omega, fun e => by have := (h.b.is.row_lt q e).2; omega, c2⟩
/-- two tabs, both made anew, one behind the other -/
theorem Duo.made (h1 : TabAt W w T1 r1 l1) (h2 : TabAt W w' T2 r2 l2) (hb : Below w.heap.size w w') (hT : w.heap.size ≤ T2) (hr : ∀ q, r2 = some q → w.heap.size ≤ q) : Duo W w' (fun _ => False) T1 r1 l1 T2 r2 l2 := by
  have := h1.is.lt
  exact ⟨h1.under hb, h2, by omega, fun e => by have := hr _ e; omega, fun e => by have := (h1.is.row_lt _ e).2; omega, fun q e1 e2 => by have := (h1.is.row_lt _ e1).2; have := hr _ e2; omega, fun _ h => h.elim⟩
/-- entries added to the first one: those of an argument, or of blocks that are neither's -/
theorem Duo.add (h : Duo W w Av T1 r1 l1 T2 r2 l2) (hs : SortedE l1) (A : Option Addr) (n c : Nat) (ps : List En) (hr : SlR w w.heap.size 3 A n (enVs ps)) (hap : 0 < n → ∀ ad, A = some ad → ad.block < W.heap.size ∨ Av ad.block) (hn : l1.length + n ≤ 1000000) :
    Calls Try.prog 9 #[.pointer (some ⟨T1, 0, none⟩), .slice A n c] w fun x w' => x = .returned (.int .i64 (((addsE l1 ps).length : Int) - (l1.length : Int))) ∧ ∃ r', Duo W w' Av T1 r' (addsE l1 ps) T2 r2 l2 ∧ ∀ b, Av b → w'.heap[b]? = w.heap[b]? := by
  refine (add_any W.heap.size T1 r1 l1 ps A n c w h.a.is hs hr ?_ h.a.bel.size hn).mono ?_
  · intro h0 ad e
    rcases hap h0 ad e with h1 | h1
    · exact ⟨by have := h.a.lo; omega, fun e => by have := (h.a.is.row_lt _ e.symm).1; omega⟩
    · obtain ⟨a1, a2, a3, a4, a5⟩ := h.av _ h1
      exact ⟨a1, fun e => a3 e.symm⟩
  · rintro x w' ⟨rfl, r', hi, hst⟩
    exact ⟨rfl, r', h.step hi hst⟩
theorem own_keptT {base n size : Nat} {e : TypeId} {v : Value} {xs : List Value} (h : w.ownsRow base e size v n xs) (hk : ∀ b, v.ownBlock = some b → w'.heap[b]? = w.heap[b]?) : w'.ownsRow base e size v n xs := by
  refine ⟨h.1, ?_⟩
  rcases h.2 with h0 | ⟨g', cap, cur, hv, hb, hh, rest⟩
  · exact .inl h0
  · exact .inr ⟨g', cap, cur, hv, hb, (hk g' (by rw [hv]; rfl)).trans hh, rest⟩
end
end Go.Proofs.Ytgaeoglhammjiaa
