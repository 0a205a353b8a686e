/- Entries that came in. -/
import Derived.Test.YtfjilngofdahgaaCIndexSavesSliceIn
import Derived.Test.YtfjilngofdahgaaJIndexSaves2

namespace Go.Proofs.Ytfjilngofdahgaa
open Go.ChangeShapes Go.WideShapes Go.ChangeAt Go.RowKit
set_option maxRecDepth 100000
set_option linter.unusedVariables false

/-- are its numbers such as a machine has? -/
def fitsE (e : En) : Prop := (-9223372036854775808 ≤ e.1 ∧ e.1 ≤ 9223372036854775807) ∧ (-9223372036854775808 ≤ e.2.1 ∧ e.2.1 ≤ 9223372036854775807) ∧ (-9223372036854775808 ≤ e.2.2 ∧ e.2.2 ≤ 9223372036854775807)
section
variable {H : Type} {enc : TypeId × Value → H} {P : Program} {w : World} {base : Nat} {spare : Nat → Bool} {held : Bool}
theorem en_form {fuel : Nat} {cs : List Value} {y : DataW H × List MemPlace} (h : DataW.trod enc Try.prog w base spare held fuel 27 cs = some y) : ∃ e : En, cs = enC e ∧ fitsE e := by
  obtain ⟨hl, hf⟩ := struct_list Try.underlying27 (by kernel_rfl) (by kernel_rfl) h
  obtain ⟨u0, y0, n0, e0, h0, _⟩ := hf 0 _ rfl
  obtain ⟨u1, y1, n1, e1, h1, _⟩ := hf 1 _ rfl
  obtain ⟨u2, y2, n2, e2, h2, _⟩ := hf 2 _ rfl
  have hl4 : cs.length = 3 := hl
  match cs, hl4 with
  | [c0, c1, c2], _ =>
    injection e0 with e0; injection e1 with e1; injection e2 with e2
    subst e0 e1 e2
    obtain ⟨a, rfl, w0⟩ := int_cell Try.underlying3 h0
    obtain ⟨b, rfl, w1⟩ := int_cell Try.underlying3 h1
    obtain ⟨c, rfl, w2⟩ := int_cell Try.underlying3 h2
    simp [Lit.wf, IntKind.min, IntKind.max, IntKind.signed, IntKind.bits] at w0 w1 w2
    exact ⟨(a, b, c), rfl, ⟨by simp only; omega, by simp only; omega, by simp only; omega⟩⟩
end
section
variable {H : Type} {enc : TypeId × Value → H} {w : World} {held : Bool}
theorem enC_inj {a b : En} (h : enC a = enC b) : a = b := by
  obtain ⟨a0, a1, a2⟩ := a; obtain ⟨b0, b1, b2⟩ := b
  simp [enC] at h
  obtain ⟨rfl, rfl, rfl⟩ := h
  rfl
theorem ens_cell {n : Nat} {u : Value} {y : DataW H × List MemPlace} (h : DataW.trod enc Try.prog w 0 (fun _ => true) held n 32 [u] = some y) (hlt : ∀ x ∈ y.2, x.block < w.heap.size) :
    ∃ (A : Option Addr) (m cap : Nat) (l : List En), u = .slice A m cap ∧ l.length = m ∧ SlR w w.heap.size 3 A m (enVs l) ∧ (∀ e ∈ l, fitsE e) ∧ m ≤ cap ∧ cap ≤ 9223372036854775807 := by
  obtain ⟨A, m, cap, hu, L, hL, hsl, hform, hmc, hcm⟩ := slice_in2 (c := 3) Try.underlying32 (by kernel_rfl) (by omega) (fun cs => ∃ e : En, cs = enC e ∧ fitsE e) (fun fuel cs y hy _ => en_form hy) h hlt
  injection hu with hu
  subst hu
  obtain ⟨l, rfl⟩ := list_map enC L (fun b hb => by obtain ⟨⟨e, he, _⟩, _⟩ := hform b hb; exact ⟨e, he⟩)
  refine ⟨A, m, cap, l, rfl, by simpa using hL, ?_, fun e he => ?_, hmc, by simpa [maxLen] using hcm⟩
  · have e : (l.map enC).flatten = enVs l := by simp [enVs, List.flatMap_def]
    rw [e] at hsl
    exact hsl
  · obtain ⟨⟨q, hq, h5⟩, _⟩ := hform (enC e) (List.mem_map.2 ⟨e, he, rfl⟩)
    exact enC_inj hq ▸ h5
theorem ens_in {A : Option Addr} {n cap : Nat} {d : DataW H} {p : List MemPlace} (h : DataW.Trod enc Try.prog w 0 (fun _ => true) held 32 (.slice A n cap) d p) (hlt : ∀ x ∈ p, x.block < w.heap.size) :
    ∃ l : List En, l.length = n ∧ SlR w w.heap.size 3 A n (enVs l) ∧ (∀ e ∈ l, fitsE e) ∧ n ≤ cap ∧ cap ≤ 9223372036854775807 := by
  obtain ⟨fuel, hf⟩ := h
  obtain ⟨A', m, c, l, hu, h1⟩ := ens_cell (u := .slice A n cap) (by simpa [Value.cells] using hf) hlt
  injection hu with a b c
  subst a b c
  exact ⟨l, h1⟩
theorem ent_in {r : Reach} {b0 : Nat} {v : Value} {d : DataW H} {p : List MemPlace} (hv : Value.okWide Try.prog w r b0 27 v) (h : DataW.Trod enc Try.prog w 0 (fun _ => true) held 27 v d p) :
    ∃ a b c : Int, v = .agg #[.int .i64 a, .int .i64 b, .int .i64 c] ∧ fitsE (a, b, c) := by
  obtain ⟨cs, rfl, _⟩ := okWide_struct Try.underlying27 hv
  obtain ⟨fuel, hf⟩ := h
  obtain ⟨⟨a, b, c⟩, he, h5⟩ := en_form hf
  refine ⟨a, b, c, ?_, h5⟩
  have : cs.toList = [.int .i64 a, .int .i64 b, .int .i64 c] := by simpa [Value.cells, enC] using he
  exact congrArg Value.agg (Array.ext' this)
end
end Go.Proofs.Ytfjilngofdahgaa
