/- chapter 10: ChunkRooms, walked. -/
import Derived.Test.YtolgjknpifpmbaaLaw10
namespace Go.Proofs.Ytolgjknpifpmbaa
open Go.RowKit
set_option maxHeartbeats 1000000
set_option maxRecDepth 100000
set_option linter.unusedVariables false

theorem chunkRooms_any (a b : Int) (w : World) :
    Calls Try.prog 5 #[.int .i64 a, .int .i64 b] w fun e w' => e = .returned (.bool true) ∧ Below w.heap.size w w' := by
  by_cases t0 : 0 ≤ a
  · skip
    by_cases t1 : a ≤ 1000000
    · skip
      by_cases t2 : 0 ≤ b
      · skip
        by_cases t3 : b ≤ a
        · skip
          obtain ⟨k, hk, hk2⟩ : ∃ k : Nat, roomL a b = (k : Int) ∧ (k : Int) = min (max (a - b - 12 - 1) 0) 3999 := by
            unfold roomL
            rw [if_neg (by omega)]
            exact ⟨(min (max (a - b - 12 - 1) 0) 3999).toNat, by omega, by omega⟩
          have hk3 : k ≤ 3999 := by omega
          have Hk := Lib.hid hk; have Hk2 := Lib.hid hk2
          clear hk hk2
          by_cases h0 : k = 0
          · subst h0
            have h13 : a - b ≤ 13 := by have := Hk2.out; omega
            go_enter Try.func5, Try.ntmps5
            go_wp2_with fail
            refine (chunkRoom_any a b _ (by omega) (by omega)).mono ?_
            rintro e w1 ⟨rfl, rfl⟩
            rw [Hk.out]
            go_wp2_with fail
            refine (alive10_any _).mono ?_
            rintro e w1 ⟨rfl, hb1⟩
            go_wp2_with fail
            go_ret
            exact ⟨rfl, hb1⟩
          · have hk0 : ((k : Int) == 0) = false := by rw [beq_eq_false_iff_ne]; omega
            have hk1 : 0 < k := by omega
            clear h0
            obtain ⟨i0, hi0, hz0, hz1, hz2⟩ := info_parts info_u8
            obtain ⟨w1, hmk, hown, hgrow⟩ := run_makeSlice_full (P := Try.prog) (w := w) w.heap.size 38 5 i0 _ 1 Try.underlying38 hi0 hz0 hz1 .i64 .i64 k (by omega) (by rw [hz2]; omega) (by simp only [maxLen]; omega) (Nat.le_refl _)
            have hbw : Below w.heap.size w w1 := (Below.refl _ _).grown hgrow (Nat.le_refl _) (by simp)
            have hcs : (madeCells (Value.int .u8 0).cells (k * 1)).toList = (List.replicate k (0 : UInt8)).map byteV := by
              apply List.ext_getElem?
              intro j
              by_cases hj : j < k <;> simp [madeCells, Value.cells, byteV, List.getElem?_replicate, Nat.mod_one, List.getElem?_range, hj]
            rw [hcs] at hown
            have hstr := run_str_own (P := Try.prog) w1 38 9 5 Try.underlying38 Try.underlying5 Try.underlying9 w.heap.size (.slice (some ⟨w.heap.size, 0, none⟩) k k) (List.replicate k (0 : UInt8)) (by rw [List.length_replicate]; exact hown)
            have hF := record_ok (List.replicate k (0 : UInt8)) (by rw [List.length_replicate]; omega)
            have hFl : (frameL (1 :: List.replicate k (0 : UInt8))).length = k + 13 := by rw [frameL_length]; simp
            obtain ⟨F, hEq⟩ : ∃ F, frameL (1 :: List.replicate k (0 : UInt8)) = F := ⟨_, rfl⟩
            rw [hEq] at hF hFl
            obtain ⟨Z, hZ⟩ : ∃ Z : ByteArray, (⟨(List.replicate k (0 : UInt8)).toArray⟩ : ByteArray) = Z := ⟨_, rfl⟩
            have hZs : Z.size = k := by rw [← hZ, size_mk, List.length_replicate]
            have hZl : Z.data.toList = List.replicate k (0 : UInt8) := by rw [← hZ]
            rw [hZ] at hstr
            rw [← hZl] at hF
            have HF := Lib.hid hF; have HZs := Lib.hid hZs
            clear hZ hZs hZl
            clear hF hEq hown hgrow hcs
            go_enter Try.func5, Try.ntmps5
            go_wp2_with fail
            refine (chunkRoom_any a b _ (by omega) (by omega)).mono ?_
            rintro e w1 ⟨rfl, rfl⟩
            rw [Hk.out]
            go_wp2_with fail
            refine (record_any Z _ (by rw [HZs.out]; omega)).mono ?_
            rintro e w2 ⟨rfl, hb2⟩
            rw [HF.out]
            have hb12 := hbw.trans (hb2.mono hbw.size)
            clear hb2
            go_wp2_with fail
            refine (alive10_any _).mono ?_
            rintro e w3 ⟨rfl, hb3⟩
            have hb13 := hb12.trans (hb3.mono hb12.size)
            have hle : (F.length : Int) ≤ a - b := by have := Hk2.out; omega
            by_cases h9 : k = 3999
            · have h9' : ((k : Int) == 3999) = true := by rw [h9]; rfl
              clear h9
              go_wp2_with fail
              go_ret
              exact ⟨rfl, hb13⟩
            · have h9' : ((k : Int) == 3999) = false := by rw [beq_eq_false_iff_ne]; omega
              have hFe : (((k : Int) + 13) == a - b) = true := by rw [beq_iff_eq]; have := Hk2.out; omega
              clear h9
              go_wp2_with fail
              go_ret
              exact ⟨rfl, hb13⟩
        · have n3 : a < b := by omega
          clear t3
          go_enter Try.func5, Try.ntmps5
          go_wp2_with fail
          refine (alive10_any _).mono ?_
          rintro e w1 ⟨rfl, hb1⟩
          go_wp2_with fail
          go_ret
          exact ⟨rfl, hb1⟩
      · have n2 : b < 0 := by omega
        clear t2
        go_enter Try.func5, Try.ntmps5
        go_wp2_with fail
        refine (alive10_any _).mono ?_
        rintro e w1 ⟨rfl, hb1⟩
        go_wp2_with fail
        go_ret
        exact ⟨rfl, hb1⟩
    · have n1 : 1000000 < a := by omega
      clear t1
      go_enter Try.func5, Try.ntmps5
      go_wp2_with fail
      refine (alive10_any _).mono ?_
      rintro e w1 ⟨rfl, hb1⟩
      go_wp2_with fail
      go_ret
      exact ⟨rfl, hb1⟩
  · have n0 : a < 0 := by omega
    clear t0
    go_enter Try.func5, Try.ntmps5
    go_wp2_with fail
    refine (alive10_any _).mono ?_
    rintro e w1 ⟨rfl, hb1⟩
    go_wp2_with fail
    go_ret
    exact ⟨rfl, hb1⟩
end Go.Proofs.Ytolgjknpifpmbaa
