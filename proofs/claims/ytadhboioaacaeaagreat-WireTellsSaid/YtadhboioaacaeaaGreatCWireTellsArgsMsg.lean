/- A message that came in. -/
import Derived.Test.YtadhboioaacaeaaGreatCWireTellsStruct

namespace Go.Proofs.YtadhboioaacaeaaGreat
open Go.ChangeShapes Go.WideShapes Go.ChangeAt Go.RowKit
set_option maxRecDepth 100000
section
variable {H : Type} {enc : TypeId × Value → H} {w : World} {held : Bool}
theorem msg_in {r : Reach} {b0 : Nat} {v : Value} {d : DataW H} {p : List MemPlace} (hv : Value.okWide Tryz.prog w r b0 24 v) (h : DataW.Trod enc Tryz.prog w 0 (fun _ => true) held 24 v d p) (hlt : ∀ x ∈ p, x.block < w.heap.size) :
    ∃ (k t l e c : Int) (ok : Bool) (A : Option Addr) (n cap : Nat) (es : List ByteArray), v = .agg #[.int .i64 k, .int .i64 t, .int .i64 l, .int .i64 e, .int .i64 c, .bool ok, .slice A n cap] ∧ es.length = n ∧ SlR w w.heap.size 1 A n (strVs es) ∧ (∀ s ∈ es, s.size ≤ 9223372036854775807) ∧ n ≤ cap ∧ cap ≤ 9223372036854775807 := by
  obtain ⟨cs, rfl, hsz, hf⟩ := struct_in Tryz.underlying24 (by kernel_rfl) (by kernel_rfl) hv h
  obtain ⟨c0, c1, c2, c3, c4, c5, c6, rfl⟩ := array7 hsz
  obtain ⟨u0, y0, n0, e0, h0, _⟩ := hf 0 _ rfl
  obtain ⟨u1, y1, n1, e1, h1, _⟩ := hf 1 _ rfl
  obtain ⟨u2, y2, n2, e2, h2, _⟩ := hf 2 _ rfl
  obtain ⟨u3, y3, n3, e3, h3, _⟩ := hf 3 _ rfl
  obtain ⟨u4, y4, n4, e4, h4, _⟩ := hf 4 _ rfl
  obtain ⟨u5, y5, n5, e5, h5, _⟩ := hf 5 _ rfl
  obtain ⟨u6, y6, n6, e6, h6, m6⟩ := hf 6 _ rfl
  injection e0 with e0; injection e1 with e1; injection e2 with e2; injection e3 with e3; injection e4 with e4; injection e5 with e5; injection e6 with e6
  subst e0 e1 e2 e3 e4 e5 e6
  obtain ⟨k, rfl, _⟩ := int_cell Tryz.underlying3 h0
  obtain ⟨t, rfl, _⟩ := int_cell Tryz.underlying3 h1
  obtain ⟨l, rfl, _⟩ := int_cell Tryz.underlying3 h2
  obtain ⟨e, rfl, _⟩ := int_cell Tryz.underlying3 h3
  obtain ⟨c, rfl, _⟩ := int_cell Tryz.underlying3 h4
  obtain ⟨ok, rfl⟩ := bool_cell Tryz.underlying4 h5
  obtain ⟨A, n, cap, es, rfl, g1, g2, g3, g4, g5⟩ := strs_cell Tryz.underlying22 Tryz.underlying9 (by kernel_rfl) h6 (fun x hx => hlt x (m6 x hx))
  exact ⟨k, t, l, e, c, ok, A, n, cap, es, rfl, g1, g2, g3, g4, g5⟩
end
end Go.Proofs.YtadhboioaacaeaaGreat
