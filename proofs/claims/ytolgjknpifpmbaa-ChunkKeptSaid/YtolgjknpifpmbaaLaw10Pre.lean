/- chapter 10: ChunkKept, walked. -/
import Derived.Test.YtolgjknpifpmbaaLaw10
import Derived.Test.YtolgjknpifpmbaaBook
namespace Go.Proofs.Ytolgjknpifpmbaa
open Go.RowKit
set_option maxHeartbeats 2000000
set_option maxRecDepth 100000
set_option linter.unusedVariables false

/-- texts as lists of bytes -/
def bodies (ss : List ByteArray) : List (List UInt8) := ss.map (·.data.toList)
theorem bodies_take (ss : List ByteArray) (k : Nat) (s : ByteArray) (h : ss[k]? = some s) : bodies (ss.take (k + 1)) = bodies (ss.take k) ++ [s.data.toList] := by
  unfold bodies; rw [List.take_add_one, h, List.map_append]; rfl
theorem bodies_mk (ss : List ByteArray) (m : Nat) : ((bodies ss).take m).map mkS = ss.take m := by
  unfold bodies
  rw [← List.map_take, List.map_map]
  have : (mkS ∘ fun x : ByteArray => x.data.toList) = id := by funext s; exact str_ext (by simp [mkS])
  rw [this, List.map_id]
theorem layRecs_length (l : List (List UInt8)) : (layAll (recs l)).length = l.flatten.length + 13 * l.length := by
  induction l with
  | nil => rfl
  | cons b l ih =>
    rw [show recs (b :: l) = (1 :: b) :: recs l from rfl, layAll_cons, List.length_append, frameL_length, ih]; simp only [List.flatten_cons, List.length_append, List.length_cons]; omega
theorem layRecs_bodies (ss : List ByteArray) : (layAll (recs (bodies ss))).length = bytesOf ss + 13 * ss.length := by
  rw [layRecs_length, show (bodies ss).flatten = joinL ss from rfl, joinL_length]; simp [bodies]
theorem layRecs_take_le (ss : List ByteArray) (k few room : Nat) (h1 : ss.length ≤ few) (h2 : bytesOf ss ≤ room) : (layAll (recs (bodies (ss.take k)))).length ≤ room + 13 * few := by
  rw [layRecs_bodies]
  have := bytesOf_mono ss k
  have : (ss.take k).length ≤ ss.length := by rw [List.length_take]; omega
  omega
theorem layRecs_snoc (l : List (List UInt8)) (b : List UInt8) : layAll (recs (l ++ [b])) = layAll (recs l) ++ frameL (1 :: b) := by rw [recs_append, layAll_append]; simp [layAll, recs]
theorem info_int10 : (Try.prog.info? 3).map (fun i => (i.zero, i.size, i.bytes)) = some (some (.int .i64 0), 1, 8) := by kernel_rfl
/-- where the records end, as values -/
def endsV (bs : List (List UInt8)) (k : Nat) : List Value := (List.range k).map fun j => .int .i64 (33 + endsL (recs bs) (j + 1) : Nat)
theorem endsV_succ (bs : List (List UInt8)) (k : Nat) : endsV bs (k + 1) = endsV bs k ++ [.int .i64 (33 + endsL (recs bs) (k + 1) : Nat)] := by
  unfold endsV; rw [List.range_succ, List.map_append]; rfl
theorem endsV_get (bs : List (List UInt8)) (k j : Nat) (h : j < k) : (endsV bs k)[j]? = some (.int .i64 (33 + endsL (recs bs) (j + 1) : Nat)) := by
  unfold endsV; simp [h]
theorem endsR_bodies (ss : List ByteArray) (k : Nat) : endsL (recs (bodies ss)) k = (layAll (recs (bodies (ss.take k)))).length := by
  unfold endsL bodies recs; rw [List.map_take, List.map_take]
theorem carry_cells {w w2 : World} {k : Nat} {A : Option Addr} {f : Nat → Value} (h : ∀ j, j < k → ∃ ad, A = some ad ∧ w.cell? (ad.add j) = some (f j)) (hb : Below w.heap.size w w2) :
    ∀ j, j < k → ∃ ad, A = some ad ∧ w2.cell? (ad.add j) = some (f j) := by
  intro j hj
  obtain ⟨ad, hA, hcell⟩ := h j hj
  exact ⟨ad, hA, (hb.cell (p := ad.add j) (World.block_lt_of_cell? _ _ hcell)).trans hcell⟩

/-- what is read of a start, records and an end -/
theorem kept_done (n : Int) (l : List (List UInt8)) (P more : List UInt8) (hP : P.length = 33) (hn : 0 ≤ n ∧ n ≤ 999999) (h : ∀ x ∈ l, x.length < 4000) (hl : l.length ≤ 1000000) :
    readRest n (P ++ layAll (recs l) ++ frameL (finishB n l.length) ++ more) [] 33 = (l, (P ++ layAll (recs l)).length + 33, true) := by
  have h1 := rest_records n l (P ++ layAll (recs l) ++ frameL (finishB n l.length) ++ more) [] P (frameL (finishB n l.length) ++ more) (by simp) h
  rw [hP, List.nil_append] at h1
  rw [h1]
  have h2 := step_finish (n := n) (n' := n) (c' := l.length) (l := l) (pre := P ++ layAll (recs l)) (r := more) (b := P ++ layAll (recs l) ++ frameL (finishB n l.length) ++ more) (by simp) hn hl hn (by omega)
  rw [if_pos ⟨rfl, rfl⟩, List.length_append, hP] at h2
  rw [readRest_done h2, List.length_append, hP]

end Go.Proofs.Ytolgjknpifpmbaa
