/- What is done, as it came in. -/
import Derived.Test.YtgaeoglhammjiaaArgsEn
import Derived.Test.YtgaeoglhammjiaaPlayAt
namespace Go.Proofs.Ytgaeoglhammjiaa
open Go.ChangeShapes Go.WideShapes Go.ChangeAt Go.RowKit
set_option maxRecDepth 100000
set_option linter.unusedVariables false

section
variable {H : Type} {enc : TypeId × Value → H} {w : World} {held : Bool}
theorem op_form {fuel : Nat} {cs : List Value} {y : DataW H × List MemPlace} (h : DataW.trod enc Try.prog w 0 (fun _ => true) held fuel 51 cs = some y) (hlt : ∀ z ∈ y.2, z.block < w.heap.size) : ∃ o : OpE, cs = opC o ∧ o.ok w := by
  obtain ⟨hl, hf⟩ := struct_list Try.underlying51 (by kernel_rfl) (by kernel_rfl) h
  obtain ⟨u0, y0, n0, e0, h0, _⟩ := hf 0 _ rfl
  obtain ⟨u1, y1, n1, e1, h1, _⟩ := hf 1 _ rfl
  obtain ⟨u2, y2, n2, e2, h2, p2⟩ := hf 2 _ rfl
  have hl4 : cs.length = 3 := hl
  match cs, hl4 with
  | [c0, c1, c2], _ =>
    injection e0 with e0; injection e1 with e1; injection e2 with e2
    subst e0 e1 e2
    obtain ⟨a, rfl, w0⟩ := int_cell Try.underlying3 h0
    obtain ⟨b, rfl, w1⟩ := int_cell Try.underlying3 h1
    obtain ⟨A, m, cap, l, rfl, k1, k2, _, k4, k5⟩ := ens_cell h2 (fun x hx => hlt x (p2 x hx))
    exact ⟨⟨a, b, A, m, cap, l⟩, rfl, k1, k2, k4, Nat.le_trans k4 k5⟩
theorem ops_in {A : Option Addr} {n cap : Nat} {d : DataW H} {p : List MemPlace} (h : DataW.Trod enc Try.prog w 0 (fun _ => true) held 39 (.slice A n cap) d p) (hlt : ∀ x ∈ p, x.block < w.heap.size) :
    ∃ os : List OpE, os.length = n ∧ SlR w w.heap.size 3 A n (opVs os) ∧ (∀ o ∈ os, o.ok w) ∧ n ≤ cap ∧ cap ≤ 9223372036854775807 := by
  obtain ⟨fuel, hf⟩ := h
  obtain ⟨A', m, c, hu, L, hL, hsl, hform, hmc, hcm⟩ := slice_in2 (c := 3) Try.underlying39 (by kernel_rfl) (by omega) (fun cs => ∃ o : OpE, cs = opC o ∧ o.ok w) (fun fuel cs y hy hz => op_form hy hz) (vs := [.slice A n cap]) (by simpa [Value.cells] using hf) hlt
  injection hu with hu
  injection hu with a b c
  subst a b c
  have hall : ∀ b ∈ L, ∃ a : { o : OpE // o.ok w }, b = opC a.1 := fun b hb => by obtain ⟨⟨o, ho, hk⟩, _⟩ := hform b hb; exact ⟨⟨o, hk⟩, ho⟩
  obtain ⟨os, rfl⟩ := list_map (fun a : { o : OpE // o.ok w } => opC a.1) L hall
  refine ⟨os.map (·.1), by simpa using hL, ?_, fun o ho => ?_, hmc, by simpa [maxLen] using hcm⟩
  · have e : (os.map fun a => opC a.1).flatten = opVs (os.map (·.1)) := by simp [opVs, List.flatMap_def, List.map_map, Function.comp_def]
    rw [e] at hsl
    exact hsl
  · obtain ⟨a, _, rfl⟩ := List.mem_map.1 ho
    exact a.2
end
end Go.Proofs.Ytgaeoglhammjiaa
