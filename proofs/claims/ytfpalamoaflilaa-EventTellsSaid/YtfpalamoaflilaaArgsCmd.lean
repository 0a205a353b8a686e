/- Events and commands that came in. -/
import Derived.Test.YtfpalamoaflilaaSliceIn
import Derived.Test.YtfpalamoaflilaaEvRow
namespace Go.Proofs.Ytfpalamoaflilaa
open Go.ChangeShapes Go.WideShapes Go.ChangeAt Go.RowKit
set_option maxRecDepth 100000
set_option linter.unusedVariables false

section
variable {H : Type} {enc : TypeId × Value → H} {P : Program} {w : World} {base : Nat} {spare : Nat → Bool} {held : Bool}
theorem float_cell {t : TypeId} {k : FloatKind} {n : Nat} {u : Value} {y : DataW H × List MemPlace} (ht : P.underlying t = some (.float k)) (h : DataW.trod enc P w base spare held n t [u] = some y) : ∃ b, u = .float k b ∧ (Lit.float k b).wf = true := by
  cases n with
  | zero => simp [DataW.trod] at h
  | succ n =>
    unfold DataW.trod at h
    rw [ht] at h
    split at h <;> simp_all
theorem ev_form {fuel : Nat} {cs : List Value} {y : DataW H × List MemPlace} (h : DataW.trod enc Try.prog w base spare held fuel 33 cs = some y) : ∃ e : Ev, cs = evC e ∧ e.fits := by
  obtain ⟨hl, hf⟩ := struct_list Try.underlying33 (by kernel_rfl) (by kernel_rfl) h
  obtain ⟨u0, y0, n0, e0, h0, _⟩ := hf 0 _ rfl
  obtain ⟨u1, y1, n1, e1, h1, _⟩ := hf 1 _ rfl
  obtain ⟨u2, y2, n2, e2, h2, _⟩ := hf 2 _ rfl
  obtain ⟨u3, y3, n3, e3, h3, _⟩ := hf 3 _ rfl
  have hl4 : cs.length = 4 := hl
  match cs, hl4 with
  | [c0, c1, c2, c3], _ =>
    injection e0 with e0; injection e1 with e1; injection e2 with e2; injection e3 with e3
    subst e0 e1 e2 e3
    obtain ⟨id, rfl, w0⟩ := int_cell Try.underlying3 h0
    obtain ⟨ty, rfl, w1⟩ := string_cell Try.underlying9 h1
    obtain ⟨da, rfl, w2⟩ := string_cell Try.underlying9 h2
    obtain ⟨va, rfl, w3⟩ := float_cell Try.underlying31 h3
    simp [Lit.wf, IntKind.min, IntKind.max, IntKind.signed, IntKind.bits] at w0 w3
    exact ⟨⟨id, ty, da, va⟩, rfl, ⟨by simp only; omega, by simp only; omega, w1, w2, by simp only; omega⟩⟩
end
section
variable {H : Type} {enc : TypeId × Value → H} {w : World} {held : Bool}
theorem evs_cell {n : Nat} {u : Value} {y : DataW H × List MemPlace} (h : DataW.trod enc Try.prog w 0 (fun _ => true) held n 22 [u] = some y) (hlt : ∀ x ∈ y.2, x.block < w.heap.size) :
    ∃ (A : Option Addr) (m cap : Nat) (l : List Ev), u = .slice A m cap ∧ SlR w w.heap.size 4 A m (evVs l) ∧ (∀ e ∈ l, e.fits) ∧ m ≤ cap ∧ cap ≤ 9223372036854775807 := by
  obtain ⟨A, m, cap, hu, L, hL, hsl, hform, hmc, hcm⟩ := slice_in2 (c := 4) Try.underlying22 (by kernel_rfl) (by omega) (fun cs => ∃ e : Ev, cs = evC e ∧ e.fits) (fun fuel cs y hy _ => ev_form hy) h hlt
  injection hu with hu
  subst hu
  obtain ⟨l, rfl⟩ := list_map evC L (fun b hb => by obtain ⟨⟨e, he, _⟩, _⟩ := hform b hb; exact ⟨e, he⟩)
  refine ⟨A, m, cap, l, rfl, ?_, fun e he => ?_, hmc, by simpa [maxLen] using hcm⟩
  · have e : (l.map evC).flatten = evVs l := by simp [evVs, List.flatMap_def]
    rw [e] at hsl
    exact hsl
  · obtain ⟨⟨q, hq, h5⟩, _⟩ := hform (evC e) (List.mem_map.2 ⟨e, he, rfl⟩)
    obtain ⟨a, b, c, d⟩ := e
    obtain ⟨a', b', c', d'⟩ := q
    simp [evC] at hq
    obtain ⟨rfl, rfl, rfl, rfl⟩ := hq
    exact h5
theorem array8 {α : Type} {cs : Array α} (h : cs.size = 8) : ∃ c0 c1 c2 c3 c4 c5 c6 c7, cs = #[c0, c1, c2, c3, c4, c5, c6, c7] := by
  obtain ⟨l⟩ := cs
  match l, h with
  | [c0, c1, c2, c3, c4, c5, c6, c7], _ => exact ⟨c0, c1, c2, c3, c4, c5, c6, c7, rfl⟩
theorem cmdc_i : Try.prog.cellsOf 3 = 1 := by kernel_rfl
theorem cmdc_s : Try.prog.cellsOf 9 = 1 := by kernel_rfl
theorem cmdc_e : Try.prog.cellsOf 22 = 1 := by kernel_rfl
theorem cmdc_m : Try.prog.cellsOf 24 = 3 := by kernel_rfl
theorem cmdc_c : Try.prog.cellsOf 26 = 8 := by kernel_rfl
theorem cmd_in {r : Reach} {b0 : Nat} {v : Value} {d : DataW H} {p : List MemPlace} (hv : Value.okWide Try.prog w r b0 26 v) (h : DataW.Trod enc Try.prog w 0 (fun _ => true) held 26 v d p) (hlt : ∀ x ∈ p, x.block < w.heap.size) :
    ∃ (k t : Int) (s : ByteArray) (x : Int) (A : Option Addr) (n cap : Nat) (es : List Ev) (m0 m1 m2 : Int), v = .agg #[.int .i64 k, .int .i64 t, .string s, .int .i64 x, .slice A n cap, .int .i64 m0, .int .i64 m1, .int .i64 m2] ∧
      SlR w w.heap.size 4 A n (evVs es) ∧ (⟨k, t, s, x, es, m0, m1, m2⟩ : Cmd).fits ∧ n ≤ cap ∧ cap ≤ 9223372036854775807 := by
  obtain ⟨cs, rfl, hsz⟩ := okWide_struct Try.underlying26 hv
  obtain ⟨c0, c1, c2, c3, c4, c5, c6, c7, rfl⟩ := array8 (hsz.trans cmdc_c)
  obtain ⟨fuel, hf⟩ := h
  obtain ⟨xs, n, rfl, hx, hlen, hxl, hf⟩ := DataW.trod_struct Try.underlying26 hf
  have hxl : xs.length = 6 := hxl
  match xs, hxl with
  | [x0, x1, x2, x3, x4, x5], _ =>
    have h0 : DataW.trod enc Try.prog w 0 (fun _ => true) held n 3 (([c0, c1, c2, c3, c4, c5, c6, c7].drop 0).take (Try.prog.cellsOf 3)) = some x0 := hf 0 _ rfl
    rw [cmdc_i] at h0
    have h0 : DataW.trod enc Try.prog w 0 (fun _ => true) held n 3 [c0] = some x0 := h0
    have h1 : DataW.trod enc Try.prog w 0 (fun _ => true) held n 3 (([c0, c1, c2, c3, c4, c5, c6, c7].drop 1).take (Try.prog.cellsOf 3)) = some x1 := hf 1 _ rfl
    rw [cmdc_i] at h1
    have h1 : DataW.trod enc Try.prog w 0 (fun _ => true) held n 3 [c1] = some x1 := h1
    have h2 : DataW.trod enc Try.prog w 0 (fun _ => true) held n 9 (([c0, c1, c2, c3, c4, c5, c6, c7].drop 2).take (Try.prog.cellsOf 9)) = some x2 := hf 2 _ rfl
    rw [cmdc_s] at h2
    have h2 : DataW.trod enc Try.prog w 0 (fun _ => true) held n 9 [c2] = some x2 := h2
    have h3 : DataW.trod enc Try.prog w 0 (fun _ => true) held n 3 (([c0, c1, c2, c3, c4, c5, c6, c7].drop 3).take (Try.prog.cellsOf 3)) = some x3 := hf 3 _ rfl
    rw [cmdc_i] at h3
    have h3 : DataW.trod enc Try.prog w 0 (fun _ => true) held n 3 [c3] = some x3 := h3
    have h4 : DataW.trod enc Try.prog w 0 (fun _ => true) held n 22 (([c0, c1, c2, c3, c4, c5, c6, c7].drop 4).take (Try.prog.cellsOf 22)) = some x4 := hf 4 _ rfl
    rw [cmdc_e] at h4
    have h4 : DataW.trod enc Try.prog w 0 (fun _ => true) held n 22 [c4] = some x4 := h4
    have h5 : DataW.trod enc Try.prog w 0 (fun _ => true) held n 24 (([c0, c1, c2, c3, c4, c5, c6, c7].drop 5).take (Try.prog.cellsOf 24)) = some x5 := hf 5 _ rfl
    rw [cmdc_m] at h5
    have h5 : DataW.trod enc Try.prog w 0 (fun _ => true) held n 24 [c5, c6, c7] = some x5 := h5
    obtain ⟨k, rfl, w0⟩ := int_cell Try.underlying3 h0
    obtain ⟨t, rfl, w1⟩ := int_cell Try.underlying3 h1
    obtain ⟨s, rfl, w2⟩ := string_cell Try.underlying9 h2
    obtain ⟨x, rfl, w3⟩ := int_cell Try.underlying3 h3
    obtain ⟨A, m, cap, es, rfl, g1, g2, g3, g4⟩ := evs_cell h4 (fun z hz => hlt z (by
      rw [(Prod.mk.inj hx).2]
      simp only [List.flatMap_cons, List.mem_append]
      exact .inr (.inr (.inr (.inr (.inl hz))))))
    obtain ⟨_, hm⟩ := struct_list Try.underlying24 (by kernel_rfl) (by kernel_rfl) h5
    obtain ⟨u0, y0, n0, e0, q0, _⟩ := hm 0 _ rfl
    obtain ⟨u1, y1, n1, e1, q1, _⟩ := hm 1 _ rfl
    obtain ⟨u2, y2, n2, e2, q2, _⟩ := hm 2 _ rfl
    injection e0 with e0; injection e1 with e1; injection e2 with e2
    subst e0 e1 e2
    obtain ⟨m0, rfl, v0⟩ := int_cell Try.underlying3 q0
    obtain ⟨m1, rfl, v1⟩ := int_cell Try.underlying3 q1
    obtain ⟨m2, rfl, v2⟩ := int_cell Try.underlying3 q2
    simp [Lit.wf, IntKind.min, IntKind.max, IntKind.signed, IntKind.bits] at w0 w1 w3 v0 v1 v2
    exact ⟨k, t, s, x, A, m, cap, es, m0, m1, m2, rfl, g1, ⟨by simp only; omega, by simp only; omega, by simp only; omega, by simp only; omega, by simp only; omega, by simp only; omega, by simp only; omega, by simp only; omega, by simp only; omega, by simp only; omega, by simp only; omega, by simp only; omega, w2, g2⟩, g3, g4⟩
end
end Go.Proofs.Ytfpalamoaflilaa
