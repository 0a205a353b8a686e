/- What a law's arguments are: arrays of integers, structs of integers, by value. -/
import Derived.Test.YtbcbjibbeieaiaaArgs
import Derived.WideKeyArr2
import Derived.Lib.SmallJoins
import Derived.Deep.Slices
namespace Go.Proofs.Ytbcbjibbeieaiaa
open Go.ChangeShapes Go.WideShapes Go.ChangeAt Go.RowKit

theorem mapM_all {α β : Type} {f : α → Option β} : ∀ (L : List α) (ys : List β), L.mapM f = some ys → ∀ a ∈ L, ∃ y, f a = some y
  | [], _, _, a, h => by cases h
  | x :: L, ys, h, a, ha => by
    rw [List.mapM_cons] at h
    simp only [bind, Option.bind_eq_some_iff, pure, Option.some.injEq] at h
    obtain ⟨y, hy, zs, hzs, rfl⟩ := h
    rcases List.mem_cons.1 ha with rfl | ha
    · exact ⟨y, hy⟩
    · exact mapM_all L zs hzs a ha

section
variable {H : Type} {enc : TypeId × Value → H} {P : Program} {w : World} {base : Nat} {spare : Nat → Bool} {held : Bool}

theorem arr_in {t e : TypeId} {n : Nat} {k : IntKind} {r : Reach} {b0 : Nat} {v : Value} {d : DataW H} {p : List MemPlace} (hu : P.underlying t = some (.array n e)) (he : P.underlying e = some (.int k)) (hc : P.cellsOf e = 1) (hC : P.cellsOf t = n)
    (hv : Value.okWide P w r b0 t v) (h : DataW.Trod enc P w base spare held t v d p) :
    ∃ cs : Array Value, v = .agg cs ∧ cs.size = n ∧ ∀ i, i < n → ∃ z, cs[i]? = some (.int k z) ∧ (Lit.int k z).wf = true := by
  simp only [Value.okWide, hu] at hv
  obtain ⟨cs, rfl, h2, _⟩ := hv
  have hsz : cs.size = n := by rw [h2, hC]
  refine ⟨cs, rfl, hsz, fun i hi => ?_⟩
  obtain ⟨fuel, hf⟩ := h
  cases fuel with
  | zero => simp [DataW.trod] at hf
  | succ m =>
    rw [DataW.trod_step] at hf
    unfold DataW.trodStep at hf
    simp only [hu, Value.cells] at hf
    rw [if_pos (by rw [hC]; simpa using hsz)] at hf
    simp only [Option.map_eq_some_iff] at hf
    obtain ⟨ys, hy, e1⟩ := hf
    obtain ⟨y, hy2⟩ := mapM_all _ _ hy i (List.mem_range.2 hi)
    obtain ⟨a, ea, _, wa⟩ := DataW.trod_int he hy2
    refine ⟨a, ?_, wa⟩
    rw [hc, Nat.mul_one] at ea
    have hi2 : i < cs.toList.length := by simpa [hsz] using hi
    rw [List.drop_eq_getElem_cons hi2] at ea
    simp at ea
    simp [ea, hsz, hi]

theorem arr2_in {t e : TypeId} {k : IntKind} {r : Reach} {b0 : Nat} {v : Value} {d : DataW H} {p : List MemPlace} (hu : P.underlying t = some (.array 2 e)) (he : P.underlying e = some (.int k)) (hc : P.cellsOf e = 1) (hC : P.cellsOf t = 2)
    (hv : Value.okWide P w r b0 t v) (h : DataW.Trod enc P w base spare held t v d p) : ∃ x y, v = .agg #[.int k x, .int k y] ∧ (Lit.int k x).wf = true ∧ (Lit.int k y).wf = true := by
  obtain ⟨cs, rfl, hs, hz⟩ := arr_in hu he hc hC hv h
  obtain ⟨c0, c1, rfl⟩ := Go.Joins.array2 hs
  obtain ⟨x, hx, wx⟩ := hz 0 (by omega)
  obtain ⟨y, hy, wy⟩ := hz 1 (by omega)
  simp at hx hy
  exact ⟨x, y, by rw [hx, hy], wx, wy⟩

/-- a struct of two integers, by value -/
theorem struct2_in {t : TypeId} {f0 f1 : Field} {k0 k1 : IntKind} {r : Reach} {b0 : Nat} {v : Value} {d : DataW H} {p : List MemPlace} (hs : P.underlying t = some (.struct #[f0, f1])) (hone : Go.Deep.oneCellFields P #[f0, f1] = true) (hC : P.cellsOf t = 2)
    (h0 : P.underlying f0.type = some (.int k0)) (h1 : P.underlying f1.type = some (.int k1))
    (hv : Value.okWide P w r b0 t v) (h : DataW.Trod enc P w base spare held t v d p) : ∃ x y, v = .agg #[.int k0 x, .int k1 y] ∧ (Lit.int k0 x).wf = true ∧ (Lit.int k1 y).wf = true := by
  obtain ⟨v0, v1, y0, y1, n, rfl, _, _, e0, e1⟩ := Go.Joins.open_agg2 hs hone hC hv h
  obtain ⟨x, hx, _, wx⟩ := DataW.trod_int h0 e0
  obtain ⟨y, hy, _, wy⟩ := DataW.trod_int h1 e1
  simp at hx hy
  exact ⟨x, y, by rw [hx, hy], wx, wy⟩

theorem flat_length {c : Nat} : ∀ L : List (List Value), (∀ cs ∈ L, cs.length = c) → L.flatten.length = L.length * c
  | [], _ => by simp
  | a :: L, h => by
    rw [List.flatten_cons, List.length_append, flat_length L (fun x hx => h x (by simp [hx])), h a (by simp), List.length_cons, Nat.succ_mul, Nat.add_comm]
theorem flat_get {c : Nat} : ∀ (L : List (List Value)), (∀ cs ∈ L, cs.length = c) → ∀ (j : Nat) (u : Value), L.flatten[j]? = some u → ∃ i r cs, j = i * c + r ∧ r < c ∧ L[i]? = some cs ∧ cs[r]? = some u
  | [], _, j, u, h => by simp at h
  | a :: L, hL, j, u, h => by
    have ha := hL a (by simp)
    rw [List.flatten_cons] at h
    by_cases hj : j < c
    · rw [List.getElem?_append_left (by omega)] at h
      exact ⟨0, j, a, by simp, hj, rfl, h⟩
    · rw [List.getElem?_append_right (by omega), ha] at h
      obtain ⟨i, r, cs, e, hr, h1, h2⟩ := flat_get L (fun x hx => hL x (by simp [hx])) _ u h
      exact ⟨i + 1, r, cs, by rw [Nat.succ_mul]; omega, hr, by simpa using h1, h2⟩

/-- a slice of elements of c cells that came in -/
theorem slice_in {t e : TypeId} {c : Nat} {A : Option Addr} {n cap : Nat} {d : DataW H} {p : List MemPlace} (ht : P.underlying t = some (.slice e)) (hc : P.cellsOf e = c) (hpos : 0 < c) (Form : List Value → Prop)
    (hform : ∀ fuel cs y, DataW.trod enc P w 0 (fun _ => true) held fuel e cs = some y → Form cs)
    (h : DataW.Trod enc P w 0 (fun _ => true) held t (.slice A n cap) d p) (hlt : ∀ x ∈ p, x.block < w.heap.size) :
    ∃ L : List (List Value), L.length = n ∧ SlR w w.heap.size c A n L.flatten ∧ (∀ cs ∈ L, Form cs ∧ cs.length = c) ∧ n ≤ cap ∧ cap ≤ maxLen := by
  obtain ⟨fuel, hf⟩ := h
  rcases Go.Deep.open_slice ht hf with ⟨hcs, _⟩ | ⟨a, len, cp, m, k, D, Pl, hcs, hb, hl, hm, hmm, hx, hel⟩
  · simp [Value.cells] at hcs
    obtain ⟨rfl, rfl, rfl⟩ := hcs
    exact ⟨[], rfl, SlR.nil _ _ _ _, by simp, Nat.le_refl _, Nat.zero_le _⟩
  · simp [Value.cells] at hcs
    obtain ⟨rfl, rfl, rfl⟩ := hcs
    simp only [if_true] at hmm
    subst hmm
    have hall : ∀ i, i < n → ∃ cs, (∀ j u, cs[j]? = some u → w.cell? ((a.add (i * c)).add j) = some u) ∧ cs.length = c ∧ Form cs := by
      intro i hi
      obtain ⟨cs, h1, h2⟩ := hel i (by omega)
      rw [hc] at h1
      obtain ⟨_, hlen, hcell⟩ := World.cells?_some h1
      exact ⟨cs, fun j u hu => by
        obtain ⟨hj, _⟩ := List.getElem?_eq_some_iff.1 hu
        exact (hcell j (by omega)).trans hu, hlen, hform _ _ _ h2⟩
    obtain ⟨f, hfn⟩ := Go.Deep.choose_lt (α := List Value) hall
    have hLl : ((List.range n).map f).length = n := by simp
    have hLc : ∀ cs ∈ (List.range n).map f, Form cs ∧ cs.length = c := by
      intro cs h
      obtain ⟨i, hi, rfl⟩ := List.mem_map.1 h
      obtain ⟨_, h2, h3⟩ := hfn i (List.mem_range.1 hi)
      exact ⟨h3, h2⟩
    refine ⟨(List.range n).map f, hLl, ⟨by rw [flat_length _ (fun cs h => (hLc cs h).2), hLl], fun hn => ⟨a, rfl, ?_, fun j u hu => ?_⟩⟩, hLc, hl, hm⟩
    · have h1 := hlt (.cell a.block a.off) (by
        rw [(Prod.mk.inj hx).2]
        refine List.mem_append_left _ ?_
        unfold MemPlace.row
        simp only [List.mem_map, List.mem_range]
        exact ⟨0, Nat.mul_pos (by omega) (by omega), by simp⟩)
      exact h1
    · obtain ⟨i, r, cs, rfl, hr, h1, h2⟩ := flat_get _ (fun cs h => (hLc cs h).2) j u hu
      simp only [List.getElem?_map, Option.map_eq_some_iff, List.getElem?_range] at h1
      obtain ⟨i', hi', rfl⟩ := h1
      obtain ⟨hi, rfl⟩ := List.getElem?_eq_some_iff.1 hi'
      simp at hi h2 ⊢
      have := (hfn i hi).1 r u h2
      rwa [add_plus] at this
end
end Go.Proofs.Ytbcbjibbeieaiaa
