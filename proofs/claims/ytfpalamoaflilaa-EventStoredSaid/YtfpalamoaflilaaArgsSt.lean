/- A stored event that came in. -/
import Derived.Test.YtfpalamoaflilaaArgsCmd
import Derived.Test.YtfpalamoaflilaaStLaw
namespace Go.Proofs.Ytfpalamoaflilaa
open Go.ChangeShapes Go.WideShapes Go.ChangeAt Go.RowKit
set_option maxRecDepth 100000
set_option linter.unusedVariables false
section
variable {H : Type} {enc : TypeId × Value → H} {w : World} {held : Bool}
theorem stc_i : Try.prog.cellsOf 3 = 1 := by kernel_rfl
theorem stc_s : Try.prog.cellsOf 9 = 1 := by kernel_rfl
theorem stc_e : Try.prog.cellsOf 33 = 4 := by kernel_rfl
theorem stc_c : Try.prog.cellsOf 38 = 8 := by kernel_rfl
theorem st_in {r : Reach} {b0 : Nat} {v : Value} {d : DataW H} {p : List MemPlace} (hv : Value.okWide Try.prog w r b0 38 v) (h : DataW.Trod enc Try.prog w 0 (fun _ => true) held 38 v d p) :
    ∃ x : St, v = .agg #[.int .i64 x.ev.id, .string x.ev.ty, .string x.ev.da, .float .f64 x.ev.va, .string x.s, .int .i64 x.v, .int .i64 x.p, .int .i64 x.t] ∧ x.fits := by
  obtain ⟨cs, rfl, hsz⟩ := okWide_struct Try.underlying38 hv
  obtain ⟨c0, c1, c2, c3, c4, c5, c6, c7, rfl⟩ := array8 (hsz.trans stc_c)
  obtain ⟨fuel, hf⟩ := h
  obtain ⟨xs, n, rfl, hx, hlen, hxl, hf⟩ := DataW.trod_struct Try.underlying38 hf
  have hxl : xs.length = 5 := hxl
  match xs, hxl with
  | [x0, x1, x2, x3, x4], _ =>
    have h0 : DataW.trod enc Try.prog w 0 (fun _ => true) held n 33 (([c0, c1, c2, c3, c4, c5, c6, c7].drop 0).take (Try.prog.cellsOf 33)) = some x0 := hf 0 _ rfl
    rw [stc_e] at h0
    have h0 : DataW.trod enc Try.prog w 0 (fun _ => true) held n 33 [c0, c1, c2, c3] = some x0 := h0
    have h1 : DataW.trod enc Try.prog w 0 (fun _ => true) held n 9 (([c0, c1, c2, c3, c4, c5, c6, c7].drop 4).take (Try.prog.cellsOf 9)) = some x1 := hf 1 _ rfl
    rw [stc_s] at h1
    have h1 : DataW.trod enc Try.prog w 0 (fun _ => true) held n 9 [c4] = some x1 := h1
    have h2 : DataW.trod enc Try.prog w 0 (fun _ => true) held n 3 (([c0, c1, c2, c3, c4, c5, c6, c7].drop 5).take (Try.prog.cellsOf 3)) = some x2 := hf 2 _ rfl
    rw [stc_i] at h2
    have h2 : DataW.trod enc Try.prog w 0 (fun _ => true) held n 3 [c5] = some x2 := h2
    have h3 : DataW.trod enc Try.prog w 0 (fun _ => true) held n 3 (([c0, c1, c2, c3, c4, c5, c6, c7].drop 6).take (Try.prog.cellsOf 3)) = some x3 := hf 3 _ rfl
    rw [stc_i] at h3
    have h3 : DataW.trod enc Try.prog w 0 (fun _ => true) held n 3 [c6] = some x3 := h3
    have h4 : DataW.trod enc Try.prog w 0 (fun _ => true) held n 3 (([c0, c1, c2, c3, c4, c5, c6, c7].drop 7).take (Try.prog.cellsOf 3)) = some x4 := hf 4 _ rfl
    rw [stc_i] at h4
    have h4 : DataW.trod enc Try.prog w 0 (fun _ => true) held n 3 [c7] = some x4 := h4
    obtain ⟨⟨id, ty, da, va⟩, he, hq⟩ := ev_form h0
    simp [evC] at he
    obtain ⟨rfl, rfl, rfl, rfl⟩ := he
    obtain ⟨s, rfl, w1⟩ := string_cell Try.underlying9 h1
    obtain ⟨a, rfl, w2⟩ := int_cell Try.underlying3 h2
    obtain ⟨b, rfl, w3⟩ := int_cell Try.underlying3 h3
    obtain ⟨c, rfl, w4⟩ := int_cell Try.underlying3 h4
    simp [Lit.wf, IntKind.min, IntKind.max, IntKind.signed, IntKind.bits] at w2 w3 w4
    exact ⟨⟨⟨id, ty, da, va⟩, s, a, b, c⟩, rfl, ⟨hq, w1, by simp only; omega, by simp only; omega, by simp only; omega, by simp only; omega, by simp only; omega, by simp only; omega⟩⟩
end
end Go.Proofs.Ytfpalamoaflilaa
