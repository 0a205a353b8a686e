/- append(s, make([]int, k)...) at a row of one's own, whatever room it has. -/
import Derived.Test.YtfjilngofdahgaaCIndexBytesTabFind
import Derived.Test.YtfjilngofdahgaaCIndexBytesTabInsert

namespace Go.Proofs.Ytfjilngofdahgaa
open Go.RowKit
set_option maxHeartbeats 1000000
set_option maxRecDepth 100000
set_option linter.unusedVariables false

theorem intVs_replicate (k : Nat) : intVs (List.replicate k 0) = List.replicate k (.int .i64 0) := by simp [intVs]
theorem intVs_app (a b : List Int) : intVs (a ++ b) = intVs a ++ intVs b := by simp [intVs]
theorem zeroI (k : Nat) : (Builtin.zeroCells (Value.int .i64 0).cells k).toList = List.replicate k (.int .i64 0) := by
  rw [List.eq_replicate_iff]
  constructor
  · simp [Builtin.zeroCells, Value.cells]
  · intro b hb
    simp [Builtin.zeroCells, Value.cells] at hb
    obtain ⟨i, hi, h⟩ := hb
    rw [Nat.mod_one] at h
    simpa using h.symm
theorem run_append_zerosI (base : Nat) (v : Value) (n k : Nat) (zs : List Int) (w : World) (ty : TypeId) (hown : w.ownsRow base 3 1 v n (intVs zs)) (hn : n + k ≤ 1000000) (hb : base ≤ w.heap.size) :
    ∃ v' w', (Builtin.append_ #[29, 3] ty #[v, .int .i64 (k : Int)]).run Try.prog w = .ok v' w' ∧ w'.ownsRow base 3 1 v' (n + k) (intVs (zs ++ List.replicate k 0)) ∧ w.grownBy w' v.ownBlock ∧ (v'.ownBlock = v.ownBlock ∨ v'.ownBlock = some w.heap.size) := by
  obtain ⟨i0, hi0, hz0, hz1, hz2⟩ := info_parts info_int
  have hl : zs.length = n := by have := hown.1; simpa [intVs] using this
  have hwk : IntKind.i64.wrap (k : Int) = k := IntWalk.i64_in _ (by omega)
  have hw0 : IntKind.i64.wrap 0 = 0 := by decide
  rcases Nat.eq_zero_or_pos k with rfl | hk
  · obtain ⟨A, c, rfl, hnc⟩ := own_slice hown
    refine ⟨.slice A n c, w, ?_, by simpa using hown, World.grownBy.refl w _, .inl rfl⟩
    have e1 : (Builtin.append_ #[29, 3] ty #[.slice A n c, .int .i64 ((0 : Nat) : Int)]).run Try.prog w = .ok (.slice A n c) w := by
      cases A with
      | none => simp [Builtin.append_, run_underlying Try.underlying29, run_underlying Try.underlying3, sizeOf, typeInfo, hi0, hz1, hz2, asInt, asIntOf, hw0, hnc]
      | some a => simp [Builtin.append_, run_underlying Try.underlying29, run_underlying Try.underlying3, sizeOf, typeInfo, hi0, hz1, hz2, asInt, asIntOf, hw0, hnc, storeCells]
    exact e1
  · rcases hown.2 with ⟨rfl, rfl⟩ | ⟨g, cap, cur, rfl, hbg, hcur, hnc, hcm, hcs, htk⟩
    · have h := Lib.run_append_nil_zeros (P := Try.prog) w 29 3 ty 3 i0 _ .i64 .i64 Try.underlying29 Try.underlying3 hi0 hz0 k hk (by omega) (by omega) (by rw [hz2]; omega)
      obtain ⟨G, hG⟩ : ∃ G, grownCap w k 0 3 = G := ⟨_, rfl⟩
      have hGn : k ≤ G := by rw [← hG]; exact grownCap_ge w _ _ _
      have hGm : G ≤ maxLen := by rw [← hG]; exact grownCap_le_maxLen w _ _ _ (by simp only [maxLen]; omega)
      rw [hG] at h
      have ho := own_zeros w.drew base 3 1 0 k G [] (.int .i64 0) rfl rfl (by omega) hGm hb
      simp only [Nat.zero_add, List.nil_append, Array.empty_append] at ho
      refine ⟨_, _, h, ?_, ?_, .inr rfl⟩
      · rw [zeroI] at ho
        have hz : zs = [] := List.eq_nil_of_length_eq_zero hl
        rw [hz, List.nil_append, intVs_replicate, Nat.zero_add]
        exact ho
      · exact (fun (hb : Below w.heap.size w _) => ⟨hb.os, hb.tape, hb.output, hb.size, fun k hk _ => hb.block k hk⟩) (((Below.refl w.heap.size w).drew).alloc (Nat.le_refl _) _)
    · have hrow : ∀ j v, (intVs zs)[j]? = some v → w.cell? ⟨g, j, none⟩ = some v := fun j v hj => by
        rw [cell_of_row w g j cur _ (0, 0) hcur, ← Array.getElem?_toList]
        rw [← htk, List.getElem?_take] at hj
        split at hj
        · exact hj
        · cases hj
      by_cases hroom : n + k ≤ cap
      · obtain ⟨ys, hy, hyl⟩ := own_long hown hroom (by omega)
        obtain ⟨ho, hg⟩ := own_setM (List.replicate k (.int .i64 0)) _ n w hy
        have hlv : (intVs zs).length = n := by simpa using hown.1
        rw [setM_eq _ _ _ (by rw [List.length_append, hlv, hyl, List.length_replicate]; omega)] at ho
        have e2 : List.take n (intVs zs ++ ys) ++ List.replicate k (Value.int .i64 0) ++ List.drop (n + (List.replicate k (Value.int .i64 0)).length) (intVs zs ++ ys) = intVs (zs ++ List.replicate k 0) := by
          rw [List.take_append_of_le_length (by omega), List.take_of_length_le (by omega), List.drop_of_length_le (by rw [List.length_append, hlv, hyl, List.length_replicate]; omega), intVs_app, intVs_replicate, List.append_nil]
        rw [e2] at ho
        refine ⟨_, _, ?_, ho, hg, .inl rfl⟩
        have cellN : ∀ j, j < cap → (w.cell? ⟨g, j, none⟩).isSome = true ∧ w.frozen? ⟨g, j, none⟩ = false := fun j hj => ⟨by rw [cell_of_row w _ j cur _ (0, 0) hcur, Array.getElem?_eq_getElem (by rw [hcs]; omega)]; rfl, by simp [World.frozen?, hcur]⟩
        have hst := run_storeCells_cells (P := Try.prog) g n (List.replicate k (.int .i64 0)) 0 w (fun j hj => (cellN (n + 0 + j) (by rw [List.length_replicate] at hj; omega)).1) (fun j hj => (cellN (n + 0 + j) (by rw [List.length_replicate] at hj; omega)).2) (fun u hu => by rw [List.eq_of_mem_replicate hu]; rfl)
        rw [Nat.add_zero] at hst
        have hne : ¬ (k * 1 = 0) := by omega
        have hneg : ¬ ((k : Int) < 0) := by omega
        have h48 : ¬ (281474976710656 < (k : Int) * 8) := by omega
        have hadd : (⟨g, 0, none⟩ : Addr).add (n * 1) = ⟨g, n, none⟩ := by rw [Addr.add_lit, Nat.mul_one, Nat.zero_add]
        simp [Builtin.append_, run_underlying Try.underlying29, run_underlying Try.underlying3, sizeOf, typeInfo, zeroValue, hi0, hz0, hz1, hz2, asInt, asIntOf, hwk, hroom, hneg, h48, hk, Nat.pos_iff_ne_zero.1 hk, zeroI, hst]
        have hadd2 : (⟨g, 0, none⟩ : Addr).add n = ⟨g, n, none⟩ := by rw [Addr.add_lit, Nat.zero_add]
        rw [hadd2, hst]
        rfl
      · have hold : (Builtin.firstCells i0.size n (.slice (some ⟨g, 0, none⟩) n cap)).run Try.prog w.drew = .ok (intVs zs).toArray w.drew := by
          rw [hz1]
          exact run_firstCells_some w.drew 1 n ⟨g, 0, none⟩ n cap (intVs zs) (by simpa using hown.1) (fun j v hj => by
            rw [Addr.add_lit, Nat.zero_add]
            exact hrow j v hj)
        have h := Lib.run_append_grow_zeros (P := Try.prog) w 29 3 ty 3 i0 _ .i64 .i64 Try.underlying29 Try.underlying3 hi0 hz0 (some ⟨g, 0, none⟩) n cap (intVs zs) hold k hk (by rw [hz1]; omega) (by omega) (by omega) (by rw [hz2]; omega) (by rw [hz2]; exact growslice_fits (by omega) (by omega))
        obtain ⟨G, hG⟩ : ∃ G, grownCap w (n + k) cap 3 = G := ⟨_, rfl⟩
        have hGn : n + k ≤ G := by rw [← hG]; exact grownCap_ge w _ _ _
        have hGm : G ≤ maxLen := by rw [← hG]; exact grownCap_le_maxLen w _ _ _ (by simp only [maxLen]; omega)
        rw [hG] at h
        have ho := own_zeros w.drew base 3 1 n k G (intVs zs) (.int .i64 0) rfl (by simpa using hown.1) (by omega) hGm hb
        refine ⟨_, _, h, ?_, ?_, .inr rfl⟩
        · rw [zeroI] at ho
          rw [intVs_app, intVs_replicate]
          exact ho
        · exact (fun (hb : Below w.heap.size w _) => ⟨hb.os, hb.tape, hb.output, hb.size, fun k hk _ => hb.block k hk⟩) (((Below.refl w.heap.size w).drew).alloc (Nat.le_refl _) _)
end Go.Proofs.Ytfjilngofdahgaa
