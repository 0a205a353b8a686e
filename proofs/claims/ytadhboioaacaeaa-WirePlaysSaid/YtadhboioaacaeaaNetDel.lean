/- slices.Delete of one packet. -/
import Derived.Test.YtadhboioaacaeaaNetPut
namespace Go.Proofs.Ytadhboioaacaeaa
open Go.RowKit
set_option maxHeartbeats 2000000
set_option maxRecDepth 100000
set_option linter.unusedVariables false

theorem pk_zero (w : World) : (zeroValue 28).run Try.prog w = .ok (.agg #[.int .i64 0, .int .i64 0, .string ByteArray.empty]) w := by kernel_rfl

theorem delete_any (g n cap j : Nat) (ps : List Pk) (w : World) (hown : w.ownsRow 0 28 3 (.slice (some ⟨g, 0, none⟩) n cap) n (pkVs ps)) (hj : j < n) (hn : n ≤ 1000000) (hcap : cap ≤ 9223372036854775807) :
    Calls Try.prog 29 #[.slice (some ⟨g, 0, none⟩) n cap, .int .i64 (j : Int), .int .i64 ((j : Int) + 1)] w fun e w' =>
      e = .returned (.slice (some ⟨g, 0, none⟩) (n - 1) cap) ∧ w'.ownsRow 0 28 3 (.slice (some ⟨g, 0, none⟩) (n - 1) cap) (n - 1) (pkVs (ps.take j ++ ps.drop (j + 1))) ∧ w.grownBy w' (some g) := by
  obtain ⟨i0, hi0, hz0, hz1, hz2⟩ := info_parts info_pk
  have hlen : ps.length = n := by have := hown.1; rw [pkVs_length] at this; omega
  have hnc := own_cap hown (by omega)
  obtain ⟨d, rfl⟩ : ∃ d, n = j + 1 + d := ⟨n - (j + 1), by omega⟩
  have hcell := hown.cellAt
  have hfz := hown.frozenAt
  obtain ⟨news, hnews⟩ : ∃ news, news = pkVs (ps.drop (j + 1)) := ⟨_, rfl⟩
  have hnl : news.length = d * 3 := by rw [hnews, pkVs_length, List.length_drop]; omega
  obtain ⟨A, hA, hsrc⟩ : ∃ A : Addr, (if cap = j + 1 then some (⟨g, 0, none⟩ : Addr) else some ⟨g, (j + 1) * 3, none⟩) = some A ∧ ∀ t u, news[t]? = some u → w.drew.cell? (A.add t) = some u := by
    by_cases h : cap = j + 1
    · refine ⟨⟨g, 0, none⟩, by simp [h], fun t u hu => ?_⟩
      have h0 : news.length = 0 := by rw [hnl]; omega
      rw [List.length_eq_zero_iff.1 h0] at hu
      simp at hu
    · refine ⟨⟨g, (j + 1) * 3, none⟩, by simp [h], fun t u hu => ?_⟩
      have ht : t < d * 3 := by
        have := (List.getElem?_eq_some_iff.1 hu).1
        rwa [hnl] at this
      rw [Addr.add_lit]
      show w.cell? _ = _
      rw [hcell _ (by omega), ← hu, hnews, ← pkVs_drop, List.getElem?_drop]
  have s1 : news.length = d * 3 := hnl
  have s2 : ∀ u ∈ news, u.oneCell' = true := by rw [hnews]; exact pkVs_one _
  have s3 : ∀ t, t < news.length → (w.drew.cell? ⟨g, 0 + j * 3 + t, none⟩).isSome = true ∧ w.drew.frozen? ⟨g, 0 + j * 3 + t, none⟩ = false := by
    intro t ht
    refine ⟨?_, hfz _⟩
    show (w.cell? _).isSome = true
    have hl : j * 3 + t < (pkVs ps).length := by rw [pkVs_length]; omega
    rw [Nat.zero_add, hcell _ (by omega), List.getElem?_eq_getElem hl]
    rfl
  obtain ⟨W1, hW1⟩ : ∃ W1, W1 = w.drew.setCells g (0 + j * 3) news := ⟨_, rfl⟩
  have ho1 := own_cells news (pkVs ps) (j * 3) w.drew (own_drew hown) (w := w)
  rw [show j * 3 = 0 + j * 3 from by omega, ← hW1] at ho1
  obtain ⟨ho1, hg1⟩ := ho1
  have hcl : ∀ ty c, (Builtin.clear_ #[39] ty #[.slice (some ⟨g, (j + d) * 3, none⟩) 1 c]).run Try.prog W1 = .ok (.tuple #[]) (W1.setCells g ((j + d) * 3) [.int .i64 0, .int .i64 0, .string ByteArray.empty]) := fun ty c =>
    run_clear_pk W1 _ _ ty _ Try.underlying39 pk_zero [.int .i64 0, .int .i64 0, .string ByteArray.empty] rfl (by simp) (by simp [Value.oneCell']) g ((j + d) * 3) c
      (fun t ht => by
        simp at ht
        have hl : (j + d) * 3 + t < (setL (pkVs ps) (0 + j * 3) news).length := by rw [setL_length, pkVs_length]; omega
        rw [ho1.cellAt _ (by omega), List.getElem?_eq_getElem hl]; rfl) (fun t ht => ho1.frozenAt _)
  obtain ⟨W2, hW2⟩ : ∃ W2, W2 = W1.setCells g ((j + d) * 3) [.int .i64 0, .int .i64 0, .string ByteArray.empty] := ⟨_, rfl⟩
  have ho2 := own_cells [.int .i64 0, .int .i64 0, .string ByteArray.empty] _ ((j + d) * 3) W1 ho1 (w := w)
  rw [← hW2] at ho2
  obtain ⟨ho2, hg2⟩ := ho2
  have ho3 := own_short (m := j + d) ho2 (by omega)
  have hxs : (setL (setL (pkVs ps) (0 + j * 3) news) ((j + d) * 3) [.int .i64 0, .int .i64 0, .string ByteArray.empty]).take ((j + d) * 3) = pkVs (ps.take j ++ ps.drop (j + 1)) := by
    have e1 : setL (pkVs ps) (0 + j * 3) news = pkVs (ps.take j ++ ps.drop (j + 1)) ++ (pkVs ps).drop ((j + d) * 3) := by
      rw [setL_eq _ _ _ (by rw [pkVs_length, hnl]; omega), Nat.zero_add, pkVs_append, pkVs_take, hnews, pkVs_length, List.length_drop, show j * 3 + (ps.length - (j + 1)) * 3 = (j + d) * 3 from by omega]
    have e2 : (pkVs (ps.take j ++ ps.drop (j + 1))).length = (j + d) * 3 := by rw [pkVs_length, List.length_append, List.length_take, List.length_drop]; omega
    rw [e1, setL_eq _ _ _ (by rw [List.length_append, e2, List.length_drop, pkVs_length]; simp; omega), List.append_assoc, List.take_append_of_le_length (by rw [List.length_take, List.length_append, e2, List.length_drop]; omega), List.take_take, Nat.min_self, List.take_left' e2]
  rw [hxs] at ho3
  have hgg : w.grownBy W2 (some g) := ⟨hg2.os.trans hg1.os, hg2.tape.trans hg1.tape, hg2.output.trans hg1.output, Nat.le_trans hg1.size hg2.size, fun k hk hn => (hg2.block k (Nat.lt_of_lt_of_le hk hg1.size) hn).trans (hg1.block k hk hn)⟩
  have hcl : ∀ ty c, (Builtin.clear_ #[39] ty #[.slice (some ⟨g, (j + d) * 3, none⟩) (j + 1 + d - (j + d)) c]).run Try.prog W1 = .ok (.tuple #[]) W2 := fun ty c => by
    rw [show j + 1 + d - (j + d) = 1 from by omega, hcl ty c, ← hW2]
  have HO := Lib.hid ho3
  have S1 := Lib.hid s1; have S2 := Lib.hid s2; have S3 := Lib.hid s3; have HS := Lib.hid hsrc; have HW1 := Lib.hid hW1
  have dj : ((j : Int) == (j : Int) + 1) = false := by rw [beq_eq_false_iff_ne]; omega
  have b1 : (0 : Int) ≤ (j : Int) := by omega
  have b2 : (j : Int) ≤ (cap : Int) := by omega
  have b3 : (j : Int) + 1 ≤ (j : Int) + 1 + (d : Int) := by omega
  have b4 : (0 : Int) ≤ (j : Int) + 1 := by omega
  clear s1 s2 s3 hsrc hW1 ho1 ho2 ho3 hxs hg1 hg2 hW2 hnl hnews hcell hfz hown hlen
  rw [show j + 1 + d - 1 = j + d from by omega]
  go_enter Try.func29, Try.ntmps29
  go_wp2_with fail
  go_region_law (refine step_append_room rfl (.tmp 22) (.tmp 25) 39 rfl 28 i0 3 Try.underlying39 hi0 hz1 g 0 j cap (by simp [Act.eval, Act.put]) A d (cap - (j + 1)) news (by simp [Act.eval, Act.put]) S1.out HS.out S2.out (by omega) S3.out ?_; rw [← HW1.out])
  all_goals
    go_wp2_with fail
    go_ret
    exact ⟨rfl, HO.out, hgg⟩
end Go.Proofs.Ytadhboioaacaeaa
