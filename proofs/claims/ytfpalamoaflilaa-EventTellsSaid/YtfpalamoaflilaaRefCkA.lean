/- chronicleref7: may a command be? (printed by mkrefck.py) -/
import Derived.Test.YtfpalamoaflilaaRefCk23
import Derived.Test.YtfpalamoaflilaaRefCk45
import Derived.Test.YtfpalamoaflilaaRefCk1
namespace Go.Proofs.Ytfpalamoaflilaa
open Go.RowKit
set_option maxHeartbeats 2000000
set_option maxRecDepth 100000
set_option linter.unusedVariables false
attribute [local go_sem] run_store_flt


theorem refCheck_any (k t : Int) (s : ByteArray) (x : Int) (A : Option Addr) (n cap B : Nat) (es : List Ev) (m0 m1 m2 : Int) (w : World) (hr : SlR w B 4 A n (evVs es)) (hB : B ≤ w.heap.size) (hn : n ≤ 1000000000) (hf : ∀ e ∈ es, e.fits) (hs : s.size ≤ 9223372036854775807) :
    Calls Try.prog 29 #[.agg #[.int .i64 k, .int .i64 t, .string s, .int .i64 x, .slice A n cap, .int .i64 m0, .int .i64 m1, .int .i64 m2]] w fun e w' => e = .returned (.int .i64 (checkC ⟨k, t, s, x, es, m0, m1, m2⟩)) ∧ Below w.heap.size w w' := by
  by_cases h : k < 1 ∨ 5 < k
  · exact refCheck_out k t s x A n cap B es m0 m1 m2 w hr hB hn hf hs h
  · have h5 : k = 1 ∨ k = 2 ∨ k = 3 ∨ k = 4 ∨ k = 5 := by omega
    rcases h5 with rfl | rfl | rfl | rfl | rfl
    · exact refCheck_1 t s x A n cap B es m0 m1 m2 w hr hB hn hf hs
    · exact refCheck_2 t s x A n cap B es m0 m1 m2 w hr hB hn hf hs
    · exact refCheck_3 t s x A n cap B es m0 m1 m2 w hr hB hn hf hs
    · exact refCheck_4 t s x A n cap B es m0 m1 m2 w hr hB hn hf hs
    · exact refCheck_5 t s x A n cap B es m0 m1 m2 w hr hB hn hf hs
end Go.Proofs.Ytfpalamoaflilaa
