/- chunks: what Read, and the document's Chunk, tell of whatever bytes. -/
import Derived.Test.YtolgjknpifpmbaaRefChunk2
namespace Go.Proofs.Ytolgjknpifpmbaa
open Go.RowKit
set_option linter.unusedVariables false

/-- what is told of bytes: number, size, bodies, where they end, done or not; the error -/
def scanOf (b : List UInt8) : (Int × Int × List (List UInt8) × Nat × Bool) × Int :=
  match beginL b with
  | none => ((0, 0, [], 0, false), 6)
  | some (n, sz, m) => ((n, sz, (readRest n b [] m).1, (readRest n b [] m).2.1, (readRest n b [] m).2.2), 0)
theorem readFrom_few (n : Int) (b : List UInt8) : ∀ (k : Nat) (l : List (List UInt8)) (good : Nat), good ≤ b.length → l.length ≤ good → (readFrom n b k l good).1.length ≤ b.length := by
  intro k
  induction k with
  | zero => intro l good h1 h2; exact Nat.le_trans h2 h1
  | succ k ih =>
    intro l good h1 h2
    unfold readFrom
    cases hs : readStep n b l good with
    | none => exact Nat.le_trans h2 h1
    | some r =>
      obtain ⟨l', good', d⟩ := r
      have hg := readStep_grows hs
      have hl : l'.length ≤ l.length + 1 := by
        unfold readStep at hs
        split at hs
        · cases hs
        split at hs
        · injection hs with hs; injection hs with hs _; rw [← hs]; simp
        split at hs
        · injection hs with hs; injection hs with hs _; rw [← hs]; omega
        · cases hs
      cases d with
      | true => show l'.length ≤ _; omega
      | false => exact ih l' good' hg.2 (by omega)
theorem scanOf_few (b : List UInt8) : (scanOf b).1.2.2.1.length ≤ b.length := by
  unfold scanOf
  cases h : beginL b with
  | none => exact Nat.zero_le _
  | some r =>
    obtain ⟨n, sz, m⟩ := r
    have hm : m ≤ b.length := by
      have := beginL_le (s := ⟨b.toArray⟩) (by simpa using h)
      rw [size_mk] at this
      exact this
    exact readFrom_few n b _ [] m hm (Nat.zero_le _)

theorem readScan_any (s : ByteArray) (w : World) (hs : s.size ≤ 1000000000) :
    Calls Try.prog 12 #[.string s] w fun e w' => ∃ lv, e = .returned (.tuple #[.agg #[.int .i64 (scanOf s.data.toList).1.1, .int .i64 (scanOf s.data.toList).1.2.1, lv, .int .i64 ((scanOf s.data.toList).1.2.2.2.1 : Nat), .bool (scanOf s.data.toList).1.2.2.2.2], .int .i64 (scanOf s.data.toList).2]) ∧
      w'.ownsRow w.heap.size 9 1 lv (scanOf s.data.toList).1.2.2.1.length (strVs ((scanOf s.data.toList).1.2.2.1.map mkS)) ∧ Below w.heap.size w w' := by
  unfold scanOf
  cases h : beginL s.data.toList with
  | none => exact (readBad_any s w hs h).mono fun e w' ⟨he, hb⟩ => ⟨.slice none 0 0, he, World.ownsRow_nil _ _ _ _, hb⟩
  | some r =>
    obtain ⟨n, sz, m⟩ := r
    exact (read_any s w hs n sz m h)
theorem refScan_any (s : ByteArray) (w : World) (hs : s.size ≤ 1000000000) :
    Calls Try.prog 19 #[.string s] w fun e w' => ∃ lv, e = .returned (.tuple #[.agg #[.int .i64 (scanOf s.data.toList).1.1, .int .i64 (scanOf s.data.toList).1.2.1, lv, .int .i64 ((scanOf s.data.toList).1.2.2.2.1 : Nat), .bool (scanOf s.data.toList).1.2.2.2.2], .int .i64 (scanOf s.data.toList).2]) ∧
      w'.ownsRow w.heap.size 9 1 lv (scanOf s.data.toList).1.2.2.1.length (strVs ((scanOf s.data.toList).1.2.2.1.map mkS)) ∧ Below w.heap.size w w' := by
  unfold scanOf
  cases h : beginL s.data.toList with
  | none => exact (refChunkBad_any s w hs h).mono fun e w' ⟨he, hb⟩ => ⟨.slice none 0 0, he, World.ownsRow_nil _ _ _ _, hb⟩
  | some r =>
    obtain ⟨n, sz, m⟩ := r
    exact (refChunk_any s w hs n sz m h)
end Go.Proofs.Ytolgjknpifpmbaa
