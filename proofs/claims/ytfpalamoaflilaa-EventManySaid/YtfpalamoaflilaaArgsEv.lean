/- An event that came in. -/
import Derived.Test.YtfpalamoaflilaaArgsCmd
namespace Go.Proofs.Ytfpalamoaflilaa
open Go.ChangeShapes Go.WideShapes Go.ChangeAt Go.RowKit
set_option maxRecDepth 100000
set_option linter.unusedVariables false
section
variable {H : Type} {enc : TypeId × Value → H} {w : World} {held : Bool}
theorem ev_in {r : Reach} {b0 : Nat} {v : Value} {d : DataW H} {p : List MemPlace} (hv : Value.okWide Try.prog w r b0 33 v) (h : DataW.Trod enc Try.prog w 0 (fun _ => true) held 33 v d p) :
    ∃ (id : Int) (ty da : ByteArray) (va : Nat), v = .agg #[.int .i64 id, .string ty, .string da, .float .f64 va] ∧ (⟨id, ty, da, va⟩ : Ev).fits := by
  obtain ⟨cs, rfl, _⟩ := okWide_struct Try.underlying33 hv
  obtain ⟨fuel, hf⟩ := h
  obtain ⟨⟨id, ty, da, va⟩, he, h5⟩ := ev_form hf
  refine ⟨id, ty, da, va, ?_, h5⟩
  have : cs.toList = [.int .i64 id, .string ty, .string da, .float .f64 va] := by simpa [Value.cells, evC] using he
  exact congrArg Value.agg (Array.ext' this)
end
end Go.Proofs.Ytfpalamoaflilaa
