/- Lists of integers as values. No program here. -/
import Derived.Test.YtfjilngofdahgaaSlice
namespace Go.Proofs.Ytfjilngofdahgaa
open Go.RowKit

/-- integers as values -/
def intVs (zs : List Int) : List Value := zs.map (Value.int .i64)
theorem intVs_get {zs : List Int} {k : Nat} {u : Value} (h : (intVs zs)[k]? = some u) : ∃ z, zs[k]? = some z ∧ u = .int .i64 z := by
  simp only [intVs, List.getElem?_map, Option.map_eq_some_iff] at h
  obtain ⟨s, h1, h2⟩ := h
  exact ⟨s, h1, h2.symm⟩
theorem intVs_at {zs : List Int} {k : Nat} {z : Int} (h : zs[k]? = some z) : (intVs zs)[k]? = some (.int .i64 z) := by simp [intVs, h]
theorem intVs_one {zs : List Int} : ∀ u ∈ intVs zs, u.oneCell' = true := by
  intro u hu
  simp only [intVs, List.mem_map] at hu
  obtain ⟨s, _, rfl⟩ := hu
  rfl
theorem intVs_len {w : World} {B n : Nat} {A : Option Addr} {zs : List Int} (h : SlR w B 1 A n (intVs zs)) : zs.length = n := by have := h.len; simpa [intVs] using this
end Go.Proofs.Ytfjilngofdahgaa
