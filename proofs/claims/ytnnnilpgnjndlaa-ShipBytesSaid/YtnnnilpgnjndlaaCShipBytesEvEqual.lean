/- chapter 7: lists of events held against each other; two commands. -/
import Derived.Test.YtnnnilpgnjndlaaCShipBytesEvSame

namespace Go.Proofs.Ytnnnilpgnjndlaa
open Go.RowKit
set_option maxHeartbeats 2000000
set_option maxRecDepth 100000
set_option linter.unusedVariables false
attribute [local go_sem] run_store_flt

theorem sameEs_of {l m : List Ev} (hl : l.length = m.length) (h : ∀ (j : Nat) (p q : Ev), l[j]? = some p → m[j]? = some q → sameE p q = true) : sameEs l m = true := by
  unfold sameEs
  rw [decide_eq_true hl, Bool.true_and, List.all_eq_true]
  rintro ⟨p, q⟩ hpq
  obtain ⟨j, hj⟩ := List.getElem?_of_mem hpq
  rw [List.getElem?_zip_eq_some] at hj
  exact h j p q hj.1 hj.2
theorem sameEs_no {l m : List Ev} {j : Nat} {p q : Ev} (hp : l[j]? = some p) (hq : m[j]? = some q) (h : sameE p q = false) : sameEs l m = false := by
  cases hs : sameEs l m with
  | false => rfl
  | true =>
    unfold sameEs at hs
    rw [Bool.and_eq_true, List.all_eq_true] at hs
    have := hs.2 (p, q) (List.mem_of_getElem? (i := j) (List.getElem?_zip_eq_some.2 ⟨hp, hq⟩))
    rw [h] at this; cases this

theorem meta_eql (a b c x y z : Int) (w : World) : (binOp .eql 24 (.agg #[.int .i64 a, .int .i64 b, .int .i64 c]) (.agg #[.int .i64 x, .int .i64 y, .int .i64 z])).run Try.prog w = .ok (.bool ((a == x) && ((b == y) && (c == z)))) w := by
  go_simp
  split
  · split
    · split <;> simp_all
    · simp_all
  · simp_all

def cmdV (k t : Int) (s : ByteArray) (x : Int) (v : Value) (m0 m1 m2 : Int) : Value := .agg #[.int .i64 k, .int .i64 t, .string s, .int .i64 x, v, .int .i64 m0, .int .i64 m1, .int .i64 m2]
end Go.Proofs.Ytnnnilpgnjndlaa
