/- Structs that came in: their cells, one by one. No program here. -/
import Derived.Test.YtfjilngofdahgaaCIndexSavesArgs
import Derived.Lib.SmallJoins
import Derived.Deep.Fields

namespace Go.Proofs.Ytfjilngofdahgaa
open Go.ChangeShapes Go.WideShapes Go.ChangeAt Go.RowKit

section
variable {H : Type} {enc : TypeId × Value → H} {P : Program} {w : World} {base : Nat} {spare : Nat → Bool} {held : Bool}

/-- a struct of one-cell fields, as cells: each field's cell with its reading -/
theorem struct_list {t : TypeId} {fs : Array Field} {fuel : Nat} {cs : List Value} {x : DataW H × List MemPlace} (hs : P.underlying t = some (.struct fs)) (hone : Go.Deep.oneCellFields P fs = true) (hC : P.cellsOf t = fs.size)
    (h : DataW.trod enc P w base spare held fuel t cs = some x) :
    cs.length = fs.size ∧ ∀ (i : Nat) (f : Field), fs[i]? = some f → ∃ u y n, cs[i]? = some u ∧ DataW.trod enc P w base spare held n f.type [u] = some y ∧ ∀ z ∈ y.2, z ∈ x.2 := by
  obtain ⟨xs, n, rfl, hx, hlen, hxl, hf⟩ := DataW.trod_struct hs h
  refine ⟨hlen.trans hC, fun i f hi => ?_⟩
  have hi' : i < fs.size := (Array.getElem?_eq_some_iff.1 hi).1
  obtain ⟨ho, hc⟩ := Go.Deep.hone_of hone i f hi
  have hu : cs[i]? = some cs[i] := List.getElem?_eq_getElem (by rw [hlen, hC]; exact hi')
  have hy : xs[i]? = some xs[i] := List.getElem?_eq_getElem (by rw [hxl]; exact hi')
  have h1 := hf i f hi
  rw [ho, hc, hy] at h1
  have h2 : (cs.drop i).take 1 = [cs[i]] := by
    rw [List.drop_eq_getElem_cons (by rw [hlen, hC]; exact hi')]
    rfl
  rw [h2] at h1
  refine ⟨cs[i], xs[i], n, hu, h1, fun z hz => ?_⟩
  rw [hx]
  exact List.mem_flatMap.2 ⟨xs[i], List.getElem_mem _, hz⟩
/-- the same, by value -/
theorem struct_in {r : Reach} {b0 : Nat} {t : TypeId} {fs : Array Field} {v : Value} {d : DataW H} {p : List MemPlace} (hs : P.underlying t = some (.struct fs)) (hone : Go.Deep.oneCellFields P fs = true) (hC : P.cellsOf t = fs.size)
    (hv : Value.okWide P w r b0 t v) (h : DataW.Trod enc P w base spare held t v d p) :
    ∃ cs : Array Value, v = .agg cs ∧ cs.size = fs.size ∧ ∀ (i : Nat) (f : Field), fs[i]? = some f → ∃ u y n, cs[i]? = some u ∧ DataW.trod enc P w base spare held n f.type [u] = some y ∧ ∀ z ∈ y.2, z ∈ p := by
  obtain ⟨cs, rfl, hsz⟩ := okWide_struct hs hv
  obtain ⟨fuel, hf⟩ := h
  obtain ⟨_, h2⟩ := struct_list hs hone hC hf
  refine ⟨cs, rfl, hsz.trans hC, fun i f hi => ?_⟩
  obtain ⟨u, y, n, h3, h4, h5⟩ := h2 i f hi
  exact ⟨u, y, n, by simpa [Value.cells] using h3, h4, h5⟩
theorem array7 {α : Type} {cs : Array α} (h : cs.size = 7) : ∃ c0 c1 c2 c3 c4 c5 c6, cs = #[c0, c1, c2, c3, c4, c5, c6] := by
  obtain ⟨l⟩ := cs
  match l, h with
  | [c0, c1, c2, c3, c4, c5, c6], _ => exact ⟨c0, c1, c2, c3, c4, c5, c6, rfl⟩
theorem int_cell {t : TypeId} {k : IntKind} {n : Nat} {u : Value} {y : DataW H × List MemPlace} (ht : P.underlying t = some (.int k)) (h : DataW.trod enc P w base spare held n t [u] = some y) : ∃ x, u = .int k x ∧ (Lit.int k x).wf = true := by
  obtain ⟨x, hx, _, wx⟩ := DataW.trod_int ht h
  injection hx with hx
  exact ⟨x, hx, wx⟩
theorem bool_cell {t : TypeId} {n : Nat} {u : Value} {y : DataW H × List MemPlace} (ht : P.underlying t = some .bool) (h : DataW.trod enc P w base spare held n t [u] = some y) : ∃ x, u = .bool x := by
  obtain ⟨x, hx, _⟩ := DataW.trod_bool ht h
  injection hx with hx
  exact ⟨x, hx⟩
theorem string_cell {t : TypeId} {n : Nat} {u : Value} {y : DataW H × List MemPlace} (ht : P.underlying t = some .string) (h : DataW.trod enc P w base spare held n t [u] = some y) : ∃ s : ByteArray, u = .string s ∧ s.size ≤ 9223372036854775807 := by
  obtain ⟨x, hx, _, wx⟩ := DataW.trod_string ht h
  injection hx with hx
  exact ⟨x, hx, by simpa [maxLen] using wx⟩
end
section
variable {H : Type} {enc : TypeId × Value → H} {P : Program} {w : World} {held : Bool}
theorem strs_cell {t e : TypeId} {n : Nat} {u : Value} {y : DataW H × List MemPlace} (ht : P.underlying t = some (.slice e)) (he : P.underlying e = some .string) (hc : P.cellsOf e = 1)
    (h : DataW.trod enc P w 0 (fun _ => true) held n t [u] = some y) (hlt : ∀ x ∈ y.2, x.block < w.heap.size) :
    ∃ (A : Option Addr) (m cap : Nat) (ss : List ByteArray), u = .slice A m cap ∧ ss.length = m ∧ SlR w w.heap.size 1 A m (strVs ss) ∧ (∀ s ∈ ss, s.size ≤ 9223372036854775807) ∧ m ≤ cap ∧ cap ≤ 9223372036854775807 := by
  obtain ⟨A, m, cap, hu⟩ := Go.Joins.slice_form ht h
  injection hu with hu
  subst hu
  obtain ⟨ss, h1, h2, h3, h4, h5⟩ := strs_in (A := A) (n := m) (cap := cap) (d := y.1) (p := y.2) ht he hc ⟨n, by simpa [Value.cells] using h⟩ hlt
  exact ⟨A, m, cap, ss, rfl, h1, h2, h3, h4, by simpa [maxLen] using h5⟩
end
end Go.Proofs.Ytfjilngofdahgaa
