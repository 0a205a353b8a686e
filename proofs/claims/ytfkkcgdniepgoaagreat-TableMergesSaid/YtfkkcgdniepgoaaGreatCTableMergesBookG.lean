/- The statements' book: general laws (printed by mkbook.py). -/
import Derived.Test.YtfkkcgdniepgoaaGreatJTableMerges8
import Derived.Test.YtfkkcgdniepgoaaGreatJTableMerges1

namespace Go.Proofs.YtfkkcgdniepgoaaGreat
open Go.RowKit
set_option maxHeartbeats 1000000
set_option linter.unusedVariables false

/-- what stands below B, but block g, is as it was -/
structure BelowBut (B g : Nat) (w w' : World) : Prop where
  os : w'.os = w.os
  tape : w'.tape = w.tape
  output : w'.output = w.output
  size : w.heap.size ≤ w'.heap.size
  block : ∀ k, k < B → k ≠ g → w'.heap[k]? = w.heap[k]?
theorem below_but {B g : Nat} {w w' : World} (h : Below B w w') : BelowBut B g w w' := ⟨h.os, h.tape, h.output, h.size, fun k hk _ => h.block k hk⟩
theorem BelowBut.trans {B g : Nat} {a b c : World} (h : BelowBut B g a b) (h2 : BelowBut B g b c) : BelowBut B g a c :=
  ⟨h2.os.trans h.os, h2.tape.trans h.tape, h2.output.trans h.output, Nat.le_trans h.size h2.size, fun k hk hne => (h2.block k hk hne).trans (h.block k hk hne)⟩
theorem BelowBut.below {B g b : Nat} {w w' : World} (h : BelowBut B g w w') (hb : b ≤ B) (hg : b ≤ g) : Below b w w' := ⟨h.os, h.tape, h.output, h.size, fun k hk => h.block k (by omega) (by omega)⟩
theorem BelowBut.set {B g i : Nat} (w : World) (u : Value) : BelowBut B g w (w.setCell ⟨g, i, none⟩ u) :=
  ⟨rfl, rfl, rfl, by simp [World.setCell], fun k _ hne => Below.heap_setCell w ⟨g, i, none⟩ u k hne⟩
theorem SlR.but {w w' : World} {B g size n : Nat} {A : Option Addr} {xs : List Value} (h : SlR w B size A n xs) (hb : BelowBut B g w w') (hg : ∀ ad, A = some ad → ad.block ≠ g) : SlR w' B size A n xs :=
  ⟨h.len, fun hn => by
    obtain ⟨ad, e, hbk, hc⟩ := h.cells hn
    exact ⟨ad, e, hbk, fun j u hu => (World.cell?_of_block (hb.block _ (by rw [add_block]; exact hbk) (by rw [add_block]; exact hg ad e))).trans (hc j u hu)⟩⟩
theorem Shows.drew {w : World} {c : Nat} {v : Value} {xs : List Value} (h : Shows w c v xs) : Shows w.drew c v xs := by
  obtain ⟨A, n, cap, e, hs, hc⟩ := h
  exact ⟨A, n, cap, e, hs.drew, hc⟩
theorem grown_setL (w : World) (g i : Nat) (u : Value) : w.grownBy (w.setCell ⟨g, i, none⟩ u) (some g) :=
  ⟨rfl, rfl, rfl, by simp [World.setCell], fun k _ hne => Below.heap_setCell w ⟨g, i, none⟩ u k (fun e => hne (by rw [e]))⟩
/-- a row of another type is grown -/
theorem Lists.keptRow {w w' : World} {base b2 c s n : Nat} {e e2 : TypeId} {vs : List Value} {xss : List (List Value)} {v : Value} {xs : List Value} (h : Lists w base e c vs xss) (hr : w.ownsRow b2 e2 s v n xs) (hne : e ≠ e2) (hg : w.grownBy w' v.ownBlock) : Lists w' base e c vs xss :=
  h.kept hg (fun i u g hu hb hv => by
    obtain ⟨ys, hy⟩ : ∃ ys, xss[i]? = some ys := ⟨_, List.getElem?_eq_getElem (by rw [← h.len]; exact (List.getElem?_eq_some_iff.1 hu).1)⟩
    obtain ⟨m, ho⟩ := h.own i u ys hu hy
    exact rows_apart ho hr hne g hb hv)
theorem Lists.far {w : World} {base c g i : Nat} {e : TypeId} {vs : List Value} {xss : List (List Value)} (h : Lists w base e c vs xss) (hg : g < base) (u : Value) : Lists (w.setCell ⟨g, i, none⟩ u) base e c vs xss :=
  h.kept (grown_setL w g i u) (fun j v b hv hb e => by injection e with e; have := (h.lt hv hb).1; omega)
theorem Lists.farB {w : World} {base c g i : Nat} {e t : TypeId} {vs : List Value} {xss : List (List Value)} {cs : Array Value} (h : Lists w base e c vs xss) (hB : BlkIs w g t cs) (hne : e ≠ t) (u : Value) : Lists (w.setCell ⟨g, i, none⟩ u) base e c vs xss :=
  h.kept (grown_setL w g i u) (fun j v b hv hb hq => by
    obtain ⟨ys, hy⟩ : ∃ ys, xss[j]? = some ys := ⟨_, List.getElem?_eq_getElem (by rw [← h.len]; exact (List.getElem?_eq_some_iff.1 hv).1)⟩
    obtain ⟨m, ho⟩ := h.own j v ys hv hy
    injection hq with hq
    exact own_ne_blk ho hB hne (by rw [hb, hq]))
theorem own_set {w : World} {base c n g i : Nat} {e : TypeId} {v : Value} {xs : List Value} (h : w.ownsRow base e c v n xs) (hg : g < base) (u : Value) : (w.setCell ⟨g, i, none⟩ u).ownsRow base e c v n xs :=
  own_far h (fun e => by have := (h.lt g e).1; omega) u
theorem own_base {w : World} {base b : Nat} {e : TypeId} {size n : Nat} {v : Value} {xs : List Value} (h : w.ownsRow base e size v n xs) (hb : b ≤ base) : w.ownsRow b e size v n xs := by
  refine ⟨h.1, ?_⟩
  rcases h.2 with h0 | ⟨g', cap, cur, hv, hbg, rest⟩
  · exact .inl h0
  · exact .inr ⟨g', cap, cur, hv, Nat.le_trans hb hbg, rest⟩
theorem Shows.form {w : World} {c : Nat} {v : Value} {xs : List Value} (h : Shows w c v xs) : ∃ A n cap, v = .slice A n cap ∧ xs.length = n * c ∧ n ≤ cap := by
  obtain ⟨A, n, cap, rfl, hr, hc⟩ := h
  exact ⟨A, n, cap, rfl, hr.len, hc⟩
theorem get_of_len {α β : Type} {l : List α} {m : List β} (h : l.length = m.length) {k : Nat} {a : α} (ha : l[k]? = some a) : ∃ b, m[k]? = some b :=
  ⟨_, List.getElem?_eq_getElem (by rw [← h]; exact (List.getElem?_eq_some_iff.1 ha).1)⟩
theorem Lists.shows {w : World} {base c : Nat} {e : TypeId} {vs : List Value} {xss : List (List Value)} (h : Lists w base e c vs xss) {k : Nat} {v : Value} {xs : List Value} (hv : vs[k]? = some v) (hx : xss[k]? = some xs) : Shows w c v xs := by
  obtain ⟨n, ho⟩ := h.own k v xs hv hx
  exact Shows.own ho
theorem add_lit0 (g k : Nat) : (⟨g, 0, none⟩ : Addr).add k = ⟨g, k, none⟩ := by unfold Addr.add; split <;> simp_all
/-- one element of a row of one's own is written -/
theorem own_put {w : World} {base g : Nat} {e : TypeId} {n k : Nat} {v : Value} {xs : List Value} (h : w.ownsRow base e 1 v n xs) (hg : v.ownBlock = some g) (hk : k < n) (u : Value) :
    (w.setCell ⟨g, k, none⟩ u).ownsRow base e 1 v n (xs.set k u) := by
  refine ⟨by rw [List.length_set]; exact h.1, ?_⟩
  rcases h.2 with ⟨rfl, _⟩ | ⟨g', cap, cur, rfl, hbg, hh, hnc, hcm, hcs, htake⟩
  · simp [Value.ownBlock] at hg
  · obtain rfl : g' = g := by simpa [Value.ownBlock] using hg
    refine .inr ⟨g', cap, cur.setIfInBounds k u, rfl, hbg, by simp [World.setCell, Array.getElem?_modify, hh], hnc, hcm, by simpa using hcs, ?_⟩
    rw [Array.toList_setIfInBounds, ← htake, List.take_set]
theorem own_free {w : World} {base g : Nat} {e : TypeId} {c n : Nat} {v : Value} {xs : List Value} (h : w.ownsRow base e c v n xs) (hg : v.ownBlock = some g) (i : Nat) : w.frozen? ⟨g, i, none⟩ = false := by
  rcases h.2 with ⟨rfl, _⟩ | ⟨g', cap, cur, rfl, hbg, hh, _⟩
  · simp [Value.ownBlock] at hg
  · obtain rfl : g' = g := by simpa [Value.ownBlock] using hg
    simp [World.frozen?, hh]
theorem set_same {α : Type} (l : List α) (i : Nat) (a : α) (h : l[i]? = some a) : l.set i a = l := by
  apply List.ext_getElem?
  intro j
  rw [List.getElem?_set]
  split
  · rename_i e; subst e; rw [h]; split
    · rfl
    · rename_i h2; exact absurd (List.getElem?_eq_some_iff.1 h).1 h2
  · rfl
theorem set_at {α : Type} (l : List α) (i : Nat) (a : α) (h : i < l.length) : (l.set i a)[i]? = some a := by simp [h]
theorem take_set_succ {α : Type} (l : List α) (i : Nat) (a : α) (h : i < l.length) : (l.set i a).take (i + 1) = l.take i ++ [a] := by
  rw [List.take_add_one, set_at l i a h, List.take_set_of_le (Nat.le_refl _)]
  rfl
end Go.Proofs.YtfkkcgdniepgoaaGreat
