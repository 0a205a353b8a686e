/- Chunks as plain lists of bytes, and their laws. No program here but codec's numbers. -/
import Derived.Test.YtolgjknpifpmbaaNum64
namespace Go.Proofs.Ytolgjknpifpmbaa
open Go.RowKit
set_option linter.unusedVariables false

/-- two numbers -/
def twoL (a b : Int) : List UInt8 := be64 a ++ be64 b
theorem twoL_length (a b : Int) : (twoL a b).length = 16 := by simp only [twoL, List.length_append, be64_length]
/-- a chunk's start -/
def startB (n s : Int) : List UInt8 := [0, 67, 72, 78, 75] ++ twoL n s
def startL (n s : Int) : List UInt8 × Int := if (0 ≤ n ∧ n ≤ 999999) ∧ 100 ≤ s ∧ s ≤ 1000000 then (frameL (startB n s), 0) else ([], 1)
/-- a chunk's end -/
def finishB (n c : Int) : List UInt8 := [2, 68, 79, 78, 69] ++ twoL n c
def finishL (n c : Int) : List UInt8 × Int := if (0 ≤ n ∧ n ≤ 999999) ∧ 0 ≤ c then (frameL (finishB n c), 0) else ([], 1)
theorem startB_length (n s : Int) : (startB n s).length = 21 := by simp only [startB, List.length_append, twoL_length]; rfl
theorem finishB_length (n s : Int) : (finishB n s).length = 21 := by simp only [finishB, List.length_append, twoL_length]; rfl

/-- what begin reads: the number, the size, how many bytes -/
def beginL (b : List UInt8) : Option (Int × Int × Nat) :=
  if (firstL b).2.2 ≠ 0 ∨ (firstL b).1.length ≠ 21 then none else
  if (startL (i64L (((firstL b).1.drop 5).take 8)) (i64L (((firstL b).1.drop 13).take 8))).2 ≠ 0 ∨
      (startL (i64L (((firstL b).1.drop 5).take 8)) (i64L (((firstL b).1.drop 13).take 8))).1 ≠ b.take (firstL b).2.1 then none else
  some (i64L (((firstL b).1.drop 5).take 8), i64L (((firstL b).1.drop 13).take 8), (firstL b).2.1)

/-- one more frame of a chunk: bodies, where they end, is it done -/
def readStep (n : Int) (b : List UInt8) (l : List (List UInt8)) (good : Nat) : Option (List (List UInt8) × Nat × Bool) :=
  if (firstL (b.drop good)).2.2 ≠ 0 ∨ (firstL (b.drop good)).1 = [] then none else
  if (firstL (b.drop good)).1.take 1 = [1] then some (l ++ [(firstL (b.drop good)).1.drop 1], good + (firstL (b.drop good)).2.1, false) else
  if (finishL n l.length).1 = (b.drop good).take (firstL (b.drop good)).2.1 then some (l, good + (firstL (b.drop good)).2.1, true) else none
/-- all of them, with fuel -/
def readFrom (n : Int) (b : List UInt8) : Nat → List (List UInt8) → Nat → List (List UInt8) × Nat × Bool
  | 0, l, good => (l, good, false)
  | k + 1, l, good => match readStep n b l good with
    | none => (l, good, false)
    | some (l', good', true) => (l', good', true)
    | some (l', good', false) => readFrom n b k l' good'

theorem readStep_grows {n : Int} {b : List UInt8} {l l' : List (List UInt8)} {good good' : Nat} {d : Bool} (h : readStep n b l good = some (l', good', d)) : good + 12 ≤ good' ∧ good' ≤ b.length := by
  unfold readStep at h
  split at h
  · cases h
  rename_i h1
  have hz : (firstL (b.drop good)).2.2 = 0 := Classical.byContradiction fun e => h1 (.inl e)
  have ho := first_ok (b := b.drop good) (x := (firstL (b.drop good)).1) (m := (firstL (b.drop good)).2.1) (by rw [← hz])
  rw [List.length_drop] at ho
  split at h
  · injection h with h; injection h with _ h; injection h with h _; omega
  split at h
  · injection h with h; injection h with _ h; injection h with h _; omega
  · cases h
theorem readFrom_fuel (n : Int) (b : List UInt8) : ∀ (k m : Nat) (l : List (List UInt8)) (good : Nat), b.length < k + good → b.length < m + good → good ≤ b.length → readFrom n b k l good = readFrom n b m l good := by
  intro k
  induction k with
  | zero => intro m l good h1 h2 h3; omega
  | succ k ih =>
    intro m l good h1 h2 h3
    cases m with
    | zero => omega
    | succ m =>
      unfold readFrom
      cases hs : readStep n b l good with
      | none => rfl
      | some r =>
        obtain ⟨l', good', d⟩ := r
        have hg := readStep_grows hs
        cases d with
        | true => rfl
        | false => exact ih m l' good' (by omega) (by omega) hg.2
/-- what stands behind the start -/
def readRest (n : Int) (b : List UInt8) (l : List (List UInt8)) (good : Nat) : List (List UInt8) × Nat × Bool := readFrom n b (b.length + 1) l good
theorem readRest_none {n : Int} {b : List UInt8} {l : List (List UInt8)} {good : Nat} (h : readStep n b l good = none) : readRest n b l good = (l, good, false) := by
  unfold readRest readFrom; rw [h]
theorem readRest_done {n : Int} {b : List UInt8} {l l' : List (List UInt8)} {good good' : Nat} (h : readStep n b l good = some (l', good', true)) : readRest n b l good = (l', good', true) := by
  unfold readRest readFrom; rw [h]
theorem readRest_more {n : Int} {b : List UInt8} {l l' : List (List UInt8)} {good good' : Nat} (h : readStep n b l good = some (l', good', false)) : readRest n b l good = readRest n b l' good' := by
  have hg := readStep_grows h
  unfold readRest
  conv => lhs; unfold readFrom
  rw [h]
  exact readFrom_fuel n b _ _ l' good' (by omega) (by omega) hg.2
end Go.Proofs.Ytolgjknpifpmbaa
