/- What a law's arguments are in memory: slices that came in, as lists. -/
import Derived.Test.YtfjilngofdahgaaRows
import Derived.Test.YtfjilngofdahgaaJIndexBytes1
import Derived.ProofKit
import Derived.Deep.Slices
import Derived.Deep.Fields

namespace Go.Proofs.Ytfjilngofdahgaa
open Go.ChangeShapes Go.WideShapes Go.ChangeAt Go.RowKit

theorem Try.ownNone : ownKnob Try.prog.godebug = none := by kernel_rfl
theorem Try.laidAll : laidOutB Try.prog = true := by kernel_rfl

section
variable {H : Type} {enc : TypeId × Value → H} {P : Program} {w : World} {spare : Nat → Bool} {held : Bool}

theorem lt_of_row {B : Nat} {ad : Addr} {n : Nat} (h : 0 < n) (hlt : ∀ x ∈ MemPlace.row ad n, x.block < B) : ad.block < B := by
  have h1 := hlt (.cell ad.block ad.off) (by
    unfold MemPlace.row
    simp only [List.mem_map, List.mem_range]
    exact ⟨0, h, by simp⟩)
  exact h1

/-- a slice of integers that came in -/
theorem ints_in {t e : TypeId} {k : IntKind} {A : Option Addr} {n cap : Nat} {d : DataW H} {p : List MemPlace} (ht : P.underlying t = some (.slice e)) (he : P.underlying e = some (.int k)) (hc : P.cellsOf e = 1)
    (h : DataW.Trod enc P w 0 (fun _ => true) held t (.slice A n cap) d p) (hlt : ∀ x ∈ p, x.block < w.heap.size) :
    ∃ zs : List Int, zs.length = n ∧ SlR w w.heap.size 1 A n (zs.map (Value.int k)) ∧ (∀ z ∈ zs, (Lit.int k z).wf = true) ∧ n ≤ cap ∧ cap ≤ maxLen := by
  obtain ⟨fuel, hf⟩ := h
  rcases open_ints ht he hc hf with ⟨hcs, _⟩ | ⟨x, l, c, zs, hcs, _, hl, hm, hz, hx, hcell, hwz⟩
  · simp [Value.cells] at hcs
    obtain ⟨rfl, rfl, rfl⟩ := hcs
    exact ⟨[], rfl, SlR.nil _ _ _ _, by simp, Nat.le_refl _, Nat.zero_le _⟩
  · simp [Value.cells] at hcs
    obtain ⟨rfl, rfl, rfl⟩ := hcs
    have hz' : zs.length = cap := by simpa using hz
    refine ⟨zs.take n, by rw [List.length_take]; omega, ⟨by simp; omega, fun hn => ⟨x, rfl, ?_, fun j u hu => ?_⟩⟩, fun z hz => hwz z (List.mem_of_mem_take hz), hl, hm⟩
    · rw [(Prod.mk.inj hx).2] at hlt
      exact lt_of_row (by omega) hlt
    · simp only [List.getElem?_map, Option.map_eq_some_iff, List.getElem?_take] at hu
      obtain ⟨z, hz1, rfl⟩ := hu
      split at hz1
      · rw [hcell j (by omega)]
        simp [List.getD_eq_getElem?_getD, hz1]
      · cases hz1

/-- a slice of texts that came in -/
theorem strs_in {t e : TypeId} {A : Option Addr} {n cap : Nat} {d : DataW H} {p : List MemPlace} (ht : P.underlying t = some (.slice e)) (he : P.underlying e = some .string) (hc : P.cellsOf e = 1)
    (h : DataW.Trod enc P w 0 (fun _ => true) held t (.slice A n cap) d p) (hlt : ∀ x ∈ p, x.block < w.heap.size) :
    ∃ ss : List ByteArray, ss.length = n ∧ SlR w w.heap.size 1 A n (strVs ss) ∧ (∀ s ∈ ss, s.size ≤ 9223372036854775807) ∧ n ≤ cap ∧ cap ≤ maxLen := by
  obtain ⟨fuel, hf⟩ := h
  rcases open_strings ht he hc hf with ⟨hcs, _⟩ | ⟨x, l, c, zs, hcs, _, hl, hm, hz, hx, hcell, hwz⟩
  · simp [Value.cells] at hcs
    obtain ⟨rfl, rfl, rfl⟩ := hcs
    exact ⟨[], rfl, SlR.nil _ _ _ _, by simp, Nat.le_refl _, Nat.zero_le _⟩
  · simp [Value.cells] at hcs
    obtain ⟨rfl, rfl, rfl⟩ := hcs
    have hz' : zs.length = cap := by simpa using hz
    refine ⟨zs.take n, by rw [List.length_take]; omega, ⟨by simp [strVs]; omega, fun hn => ⟨x, rfl, ?_, fun j u hu => ?_⟩⟩, fun z hz => by simpa [maxLen] using hwz z (List.mem_of_mem_take hz), hl, hm⟩
    · rw [(Prod.mk.inj hx).2] at hlt
      exact lt_of_row (by omega) hlt
    · simp only [strVs, List.getElem?_map, Option.map_eq_some_iff, List.getElem?_take] at hu
      obtain ⟨z, hz1, rfl⟩ := hu
      split at hz1
      · rw [hcell j (by omega)]
        simp [List.getD_eq_getElem?_getD, hz1]
      · cases hz1
end
end Go.Proofs.Ytfjilngofdahgaa
