/- Lists of entries held against each other. -/
import Derived.Test.YtfjilngofdahgaaCIndexSavesTabEql
import Derived.Test.YtfjilngofdahgaaCIndexSavesTabInsert

namespace Go.Proofs.Ytfjilngofdahgaa
open Go.RowKit
set_option maxHeartbeats 2000000
set_option maxRecDepth 100000
set_option linter.unusedVariables false

theorem sameEntries_eq (B C n cn cm : Nat) (A D : Option Addr) (ps : List En) (w : World) (ha : SlR w B 3 A n (enVs ps)) (hb : SlR w C 3 D n (enVs ps)) (hn : n ≤ 9223372036854775807) :
    Calls Try.prog 20 #[.slice A n cn, .slice D n cm] w fun e w' => e = .returned (.bool true) ∧ ∃ k, w' = w.drewN k := by
  have hl : ps.length = n := by have := ha.len; rw [enVs_length] at this; omega
  have Ha := Lib.hid ha; have Hb := Lib.hid hb; have Hl := Lib.hid hl
  have hnn : ((n : Int) != (n : Int)) = false := by simp
  clear ha hb hl
  go_enter Try.func20, Try.ntmps20
  go_wp2_with fail
  go_loopw [5] (fun i wr => ∃ k q : Nat, k ≤ n ∧ i = .int .i64 k ∧ wr = w.drewN q) (fun i _ => n - (intOf i).toNat)
  case atStart => exact ⟨0, 0, Nat.zero_le _, rfl, rfl⟩
  case round =>
    obtain ⟨k, q, hk, rfl, rfl⟩ := hrel
    by_cases hlt : k < n
    · obtain ⟨p, hp⟩ : ∃ p, ps[k]? = some p := ⟨_, List.getElem?_eq_getElem (by rw [Hl.out]; exact hlt)⟩
      obtain ⟨ad, rfl, had, hcell⟩ := Ha.out.cells (by omega)
      obtain ⟨ad2, rfl, had2, hcell2⟩ := Hb.out.cells (by omega)
      have k0 := hcell (k * 3) _ (enVs_get ps k 0 _ hp (by omega))
      have k1 := hcell (k * 3 + 1) _ (enVs_get ps k 1 _ hp (by omega))
      have k2 := hcell (k * 3 + 2) _ (enVs_get ps k 2 _ hp (by omega))
      have l0 := hcell2 (k * 3) _ (enVs_get ps k 0 _ hp (by omega))
      have l1 := hcell2 (k * 3 + 1) _ (enVs_get ps k 1 _ hp (by omega))
      have l2 := hcell2 (k * 3 + 2) _ (enVs_get ps k 2 _ hp (by omega))
      obtain ⟨x, y, s⟩ := p
      simp [enC] at k0 k1 k2 l0 l1 l2
      rw [← add_nextE _ _ _ (by omega)] at k1 k2 l1 l2
      have hlt1 : (k : Int) < (n : Int) := by omega
      have hk0 : 0 ≤ (k : Int) := by omega
      clear hp hcell hcell2 had had2
      go_wp2_with fail
      go_quiet (fail)
      go_wp2_with fail
      go_roundw
      case rel => exact ⟨k + 1, _, by omega, by go_num, rfl⟩
      case measure => simp [intOf]; omega
    · obtain rfl : k = n := by omega
      have hd : decide (k < k) = false := by simp
      go_wp2_with fail
      go_ret
      exact ⟨rfl, q, rfl⟩
end Go.Proofs.Ytfjilngofdahgaa
