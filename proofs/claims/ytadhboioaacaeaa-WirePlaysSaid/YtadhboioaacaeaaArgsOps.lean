/- What WirePlays' argument is: things that are done, with packets. -/
import Derived.Test.YtadhboioaacaeaaArgs
import Derived.Test.YtadhboioaacaeaaLight
import Derived.Deep.Slices
namespace Go.Proofs.Ytadhboioaacaeaa
open Go.ChangeShapes Go.WideShapes Go.ChangeAt Go.RowKit
set_option linter.unusedVariables false

theorem flat_len {c : Nat} : ∀ L : List (List Value), (∀ cs ∈ L, cs.length = c) → L.flatten.length = L.length * c
  | [], _ => by simp
  | a :: L, h => by
    rw [List.flatten_cons, List.length_append, flat_len L (fun x hx => h x (by simp [hx])), h a (by simp), List.length_cons, Nat.succ_mul, Nat.add_comm]
theorem flat_at {c : Nat} : ∀ (L : List (List Value)), (∀ cs ∈ L, cs.length = c) → ∀ (j : Nat) (u : Value), L.flatten[j]? = some u → ∃ i r cs, j = i * c + r ∧ r < c ∧ L[i]? = some cs ∧ cs[r]? = some u
  | [], _, j, u, h => by simp at h
  | a :: L, hL, j, u, h => by
    have ha := hL a (by simp)
    rw [List.flatten_cons] at h
    by_cases hj : j < c
    · rw [List.getElem?_append_left (by omega)] at h
      exact ⟨0, j, a, by simp, hj, rfl, h⟩
    · rw [List.getElem?_append_right (by omega), ha] at h
      obtain ⟨i, r, cs, e, hr, h1, h2⟩ := flat_at L (fun x hx => hL x (by simp [hx])) _ u h
      exact ⟨i + 1, r, cs, by rw [Nat.succ_mul]; omega, hr, by simpa using h1, h2⟩
theorem list_map {α β : Type} (f : α → β) : ∀ L : List β, (∀ b ∈ L, ∃ a, b = f a) → ∃ M : List α, L = M.map f
  | [], _ => ⟨[], rfl⟩
  | b :: L, h => by
    obtain ⟨a, rfl⟩ := h b (by simp)
    obtain ⟨M, rfl⟩ := list_map f L (fun x hx => h x (by simp [hx]))
    exact ⟨a :: M, rfl⟩

section
variable {H : Type} {enc : TypeId × Value → H} {P : Program} {w : World} {held : Bool}
/-- a slice of elements of c cells that came in, each of a form, whose own places lie below too -/
theorem slice_in2 {t e : TypeId} {c : Nat} {fuel : Nat} {vs : List Value} {x : DataW H × List MemPlace} (ht : P.underlying t = some (.slice e)) (hc : P.cellsOf e = c) (hpos : 0 < c) (Form : List Value → Prop)
    (hform : ∀ fuel cs y, DataW.trod enc P w 0 (fun _ => true) held fuel e cs = some y → (∀ z ∈ y.2, z.block < w.heap.size) → Form cs)
    (hf : DataW.trod enc P w 0 (fun _ => true) held fuel t vs = some x) (hlt : ∀ z ∈ x.2, z.block < w.heap.size) :
    ∃ A n cap, vs = [.slice A n cap] ∧ ∃ L : List (List Value), L.length = n ∧ SlR w w.heap.size c A n L.flatten ∧ (∀ cs ∈ L, Form cs ∧ cs.length = c) ∧ n ≤ cap ∧ cap ≤ maxLen := by
  rcases Go.Deep.open_slice ht hf with ⟨hcs, _⟩ | ⟨a, n, cap, m, k, D, Pl, hcs, hb, hl, hm, hmm, hx, hel⟩
  · exact ⟨none, 0, 0, hcs, [], rfl, SlR.nil _ _ _ _, by simp, Nat.le_refl _, Nat.zero_le _⟩
  · simp only [if_true] at hmm
    subst hmm
    refine ⟨some a, n, m, hcs, ?_⟩
    have hall : ∀ i, i < n → ∃ cs, (∀ j u, cs[j]? = some u → w.cell? ((a.add (i * c)).add j) = some u) ∧ cs.length = c ∧ Form cs := by
      intro i hi
      obtain ⟨cs, h1, h2⟩ := hel i (by omega)
      rw [hc] at h1
      obtain ⟨_, hlen, hcell⟩ := World.cells?_some h1
      exact ⟨cs, fun j u hu => by
        obtain ⟨hj, _⟩ := List.getElem?_eq_some_iff.1 hu
        exact (hcell j (by omega)).trans hu, hlen, hform _ _ _ h2 (fun z hz => hlt z (by
          rw [hx]
          exact List.mem_append_right _ (List.mem_flatMap.2 ⟨i, List.mem_range.2 (by omega), hz⟩)))⟩
    obtain ⟨f, hfn⟩ := Go.Deep.choose_lt (α := List Value) hall
    have hLl : ((List.range n).map f).length = n := by simp
    have hLc : ∀ cs ∈ (List.range n).map f, Form cs ∧ cs.length = c := by
      intro cs h
      obtain ⟨i, hi, rfl⟩ := List.mem_map.1 h
      obtain ⟨_, h2, h3⟩ := hfn i (List.mem_range.1 hi)
      exact ⟨h3, h2⟩
    refine ⟨(List.range n).map f, hLl, ⟨by rw [flat_len _ (fun cs h => (hLc cs h).2), hLl], fun hn => ⟨a, rfl, ?_, fun j u hu => ?_⟩⟩, hLc, hl, hm⟩
    · have h1 := hlt (.cell a.block a.off) (by
        rw [hx]
        refine List.mem_append_left _ ?_
        unfold MemPlace.row
        simp only [List.mem_map, List.mem_range]
        exact ⟨0, Nat.mul_pos (by omega) (by omega), by simp⟩)
      exact h1
    · obtain ⟨i, r, cs, rfl, hr, h1, h2⟩ := flat_at _ (fun cs h => (hLc cs h).2) j u hu
      simp only [List.getElem?_map, Option.map_eq_some_iff, List.getElem?_range] at h1
      obtain ⟨i', hi', rfl⟩ := h1
      obtain ⟨hi, rfl⟩ := List.getElem?_eq_some_iff.1 hi'
      simp at hi h2 ⊢
      have := (hfn i hi).1 r u h2
      rwa [add_plus] at this

theorem cells_i : Try.prog.cellsOf 3 = 1 := by kernel_rfl
theorem cells_s : Try.prog.cellsOf 9 = 1 := by kernel_rfl
theorem cells_l : Try.prog.cellsOf 39 = 1 := by kernel_rfl
theorem cells_p : Try.prog.cellsOf 28 = 3 := by kernel_rfl
theorem cells_o : Try.prog.cellsOf 44 = 4 := by kernel_rfl

theorem pk_form {base : Nat} {spare : Nat → Bool} {fuel : Nat} {cs : List Value} {y : DataW H × List MemPlace} (h : DataW.trod enc Try.prog w base spare held fuel 28 cs = some y) : ∃ p : Pk, cs = pkC p ∧ PkOk p ∧ p.2.2.size ≤ 9223372036854775807 := by
  obtain ⟨xs, n, rfl, hx, hlen, hxl, hf⟩ := DataW.trod_struct Try.underlying28 h
  have hc : cs.length = 3 := hlen.trans cells_p
  have hxl : xs.length = 3 := hxl
  match cs, hc with
  | [a, b, c], _ =>
    match xs, hxl with
    | [x0, x1, x2], _ =>
      have h0 : DataW.trod enc Try.prog w base spare held n 3 (([a, b, c].drop 0).take (Try.prog.cellsOf 3)) = some x0 := hf 0 _ rfl
      rw [cells_i] at h0
      have h0 : DataW.trod enc Try.prog w base spare held n 3 [a] = some x0 := h0
      have h1 : DataW.trod enc Try.prog w base spare held n 3 (([a, b, c].drop 1).take (Try.prog.cellsOf 3)) = some x1 := hf 1 _ rfl
      rw [cells_i] at h1
      have h1 : DataW.trod enc Try.prog w base spare held n 3 [b] = some x1 := h1
      have h2 : DataW.trod enc Try.prog w base spare held n 9 (([a, b, c].drop 2).take (Try.prog.cellsOf 9)) = some x2 := hf 2 _ rfl
      rw [cells_s] at h2
      have h2 : DataW.trod enc Try.prog w base spare held n 9 [c] = some x2 := h2
      obtain ⟨i, hi, _, wi⟩ := DataW.trod_int Try.underlying3 h0
      obtain ⟨j, hj, _, wj⟩ := DataW.trod_int Try.underlying3 h1
      obtain ⟨s, hs, _, ws⟩ := DataW.trod_string Try.underlying9 h2
      injection hi with hi
      injection hj with hj
      injection hs with hs
      subst hi hj hs
      simp [Lit.wf, IntKind.min, IntKind.max, IntKind.signed, IntKind.bits] at wi wj
      exact ⟨(i, j, s), rfl, ⟨⟨by simp only; omega, by simp only; omega⟩, by simp only; omega, by simp only; omega⟩, by simpa [maxLen] using ws⟩

theorem op_form {fuel : Nat} {cs : List Value} {y : DataW H × List MemPlace} (h : DataW.trod enc Try.prog w 0 (fun _ => true) held fuel 44 cs = some y) (hlt : ∀ z ∈ y.2, z.block < w.heap.size) : ∃ o : OpS, cs = opC o ∧ OpOk w w.heap.size o := by
  obtain ⟨xs, n, rfl, hx, hlen, hxl, hf⟩ := DataW.trod_struct Try.underlying44 h
  have hc : cs.length = 4 := hlen.trans cells_o
  have hxl : xs.length = 4 := hxl
  match cs, hc with
  | [a, b, c, d], _ =>
    match xs, hxl with
    | [x0, x1, x2, x3], _ =>
      have h0 : DataW.trod enc Try.prog w 0 (fun _ => true) held n 3 (([a, b, c, d].drop 0).take (Try.prog.cellsOf 3)) = some x0 := hf 0 _ rfl
      rw [cells_i] at h0
      have h0 : DataW.trod enc Try.prog w 0 (fun _ => true) held n 3 [a] = some x0 := h0
      have h1 : DataW.trod enc Try.prog w 0 (fun _ => true) held n 3 (([a, b, c, d].drop 1).take (Try.prog.cellsOf 3)) = some x1 := hf 1 _ rfl
      rw [cells_i] at h1
      have h1 : DataW.trod enc Try.prog w 0 (fun _ => true) held n 3 [b] = some x1 := h1
      have h2 : DataW.trod enc Try.prog w 0 (fun _ => true) held n 3 (([a, b, c, d].drop 2).take (Try.prog.cellsOf 3)) = some x2 := hf 2 _ rfl
      rw [cells_i] at h2
      have h2 : DataW.trod enc Try.prog w 0 (fun _ => true) held n 3 [c] = some x2 := h2
      have h3 : DataW.trod enc Try.prog w 0 (fun _ => true) held n 39 (([a, b, c, d].drop 3).take (Try.prog.cellsOf 39)) = some x3 := hf 3 _ rfl
      rw [cells_l] at h3
      have h3 : DataW.trod enc Try.prog w 0 (fun _ => true) held n 39 [d] = some x3 := h3
      obtain ⟨i, hi, _, wi⟩ := DataW.trod_int Try.underlying3 h0
      obtain ⟨j, hj, _, wj⟩ := DataW.trod_int Try.underlying3 h1
      obtain ⟨k, hk, _, wk⟩ := DataW.trod_int Try.underlying3 h2
      obtain ⟨A, m, cap, hd, L, hL, hsl, hform, hmc, hcm⟩ := slice_in2 Try.underlying39 cells_p (by omega) (fun cs => ∃ p : Pk, cs = pkC p ∧ PkOk p ∧ p.2.2.size ≤ 9223372036854775807) (fun fuel cs y hy _ => pk_form hy) h3 (fun z hz => hlt z (by
        rw [hx]
        simp only [List.flatMap_cons, List.mem_append]
        exact .inr (.inr (.inr (.inl hz)))))
      injection hi with hi
      injection hj with hj
      injection hk with hk
      injection hd with hd
      subst hi hj hk hd
      obtain ⟨ps, rfl⟩ := list_map pkC L (fun b hb => by obtain ⟨⟨p, hp, _⟩, _⟩ := hform b hb; exact ⟨p, hp⟩)
      simp [Lit.wf, IntKind.min, IntKind.max, IntKind.signed, IntKind.bits] at wj wk
      refine ⟨⟨i, j, k, A, m, cap, ps⟩, rfl, ⟨?_, hmc, by simpa [maxLen] using hcm, ⟨by simp only; omega, by simp only; omega⟩, ⟨by simp only; omega, by simp only; omega⟩, fun p hp => ?_⟩⟩
      · have e : (ps.map pkC).flatten = pkVs ps := by simp [pkVs, List.flatMap_def]
        rw [e] at hsl
        exact hsl
      · obtain ⟨⟨q, hq, h5, h6⟩, _⟩ := hform (pkC p) (List.mem_map.2 ⟨p, hp, rfl⟩)
        obtain ⟨x, y, s⟩ := p
        obtain ⟨x', y', s'⟩ := q
        simp [pkC] at hq
        obtain ⟨rfl, rfl, rfl⟩ := hq
        exact ⟨h5, h6⟩
end

section
variable {H : Type} {enc : TypeId × Value → H} {w : World} {held : Bool}
theorem ops_in {A : Option Addr} {n cap : Nat} {d : DataW H} {p : List MemPlace} (h : DataW.Trod enc Try.prog w 0 (fun _ => true) held 36 (.slice A n cap) d p) (hlt : ∀ x ∈ p, x.block < w.heap.size) :
    ∃ l : List OpS, SlR w w.heap.size 4 A n (opVs l) ∧ (∀ o ∈ l, OpOk w w.heap.size o) ∧ n ≤ 9223372036854775807 := by
  obtain ⟨fuel, hf⟩ := h
  obtain ⟨A', n', cap', hv, L, hL, hsl, hform, hmc, hcm⟩ := slice_in2 Try.underlying36 cells_o (by omega) (fun cs => ∃ o : OpS, cs = opC o ∧ OpOk w w.heap.size o) (fun fuel cs y hy hz => op_form hy hz) hf hlt
  simp [Value.cells] at hv
  obtain ⟨rfl, rfl, rfl⟩ := hv
  -- each element's own reading is kept beside it
  have hpick : ∀ L : List (List Value), (∀ cs ∈ L, (∃ o : OpS, cs = opC o ∧ OpOk w w.heap.size o) ∧ cs.length = 4) → ∃ l : List OpS, L.flatten = opVs l ∧ ∀ o ∈ l, OpOk w w.heap.size o := by
    intro L
    induction L with
    | nil => intro _; exact ⟨[], rfl, by simp⟩
    | cons c L ih =>
      intro h
      obtain ⟨l, hl, hl2⟩ := ih (fun x hx => h x (by simp [hx]))
      obtain ⟨⟨o, rfl, ho⟩, _⟩ := h c (by simp)
      refine ⟨o :: l, by rw [List.flatten_cons, hl]; rfl, fun q hq => ?_⟩
      rcases List.mem_cons.1 hq with rfl | hq
      · exact ho
      · exact hl2 q hq
  obtain ⟨l, hl, hok⟩ := hpick L hform
  rw [hl] at hsl
  exact ⟨l, hsl, hok, by simp only [maxLen] at hcm; omega⟩
end
end Go.Proofs.Ytadhboioaacaeaa
