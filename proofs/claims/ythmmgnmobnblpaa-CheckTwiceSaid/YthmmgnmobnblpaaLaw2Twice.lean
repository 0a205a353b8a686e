/- chapter 2: CheckTwice, walked. -/
import Derived.Test.YthmmgnmobnblpaaLaw2
namespace Go.Proofs.Ythmmgnmobnblpaa
open Go.RowKit
set_option maxHeartbeats 400000
set_option linter.unusedVariables false

/-- sealed n times -/
def sealN : Nat → List UInt8 → List UInt8
  | 0, l => l
  | n + 1, l => sum4 (sealN n l) ++ sealN n l
theorem sealN_length (n : Nat) (l : List UInt8) : (sealN n l).length = l.length + 4 * n := by
  induction n with
  | zero => rfl
  | succ n ih => rw [sealN, List.length_append, sum4_length, ih]; omega

theorem checkTwice_any (s : ByteArray) (n : Int) (w : World) (hs : s.size ≤ 9223372036854775807) :
    Calls Try.prog 6 #[.string s, .int .i64 n] w fun e w' => e = .returned (.bool true) ∧ Below w.heap.size w w' := by
  by_cases hc : s.size ≤ 2000 ∧ 0 ≤ n ∧ n ≤ 10
  · obtain ⟨h1, h2, h3⟩ := hc
    obtain ⟨k, rfl⟩ := Int.eq_ofNat_of_zero_le h2
    have hsl : s.data.toList.length ≤ 2000 := by rw [← size_list]; exact h1
    go_enter Try.func6, Try.ntmps6
    go_wp2_with fail
    go_loopw [5, 6] (fun t i wr => ∃ j : Nat, j ≤ k ∧ i = .int .i64 j ∧ t = .string ⟨(sealN j s.data.toList).toArray⟩ ∧ Below w.heap.size w wr) (fun _ i _ => k - (intOf i).toNat)
    case atStart => exact ⟨0, Nat.zero_le _, rfl, by simp [sealN], Below.refl _ _⟩
    case round =>
      obtain ⟨j, hj, rfl, rfl, hb⟩ := hrel
      have hlen := sealN_length j s.data.toList
      by_cases hlt : j < k
      · have Hl := Lib.hid hlen; clear hlen
        go_wp2_with fail
        refine (seal_any _ _ (by rw [size_mk, Hl.out]; omega)).mono ?_
        rintro e w1 ⟨rfl, hb1⟩
        go_wp2_with fail
        go_roundw
        case rel => exact ⟨j + 1, by omega, by go_num, rfl, hb.trans (hb1.mono hb.size)⟩
        case measure => simp [intOf]; omega
      · obtain rfl : j = k := by omega
        have hlm : (((sealN j s.data.toList).length : Int) != (s.size : Int) + 4 * (j : Int)) = false := by rw [hlen, size_list]; simp
        clear hlen
        go_wp2_with fail
        go_loopw [5, 7] (fun t i wq => ∃ m : Nat, m ≤ j ∧ i = .int .i64 m ∧ t = .string ⟨(sealN (j - m) s.data.toList).toArray⟩ ∧ Below w.heap.size w wq) (fun _ i _ => j - (intOf i).toNat)
        case atStart => exact ⟨0, Nat.zero_le _, rfl, rfl, hb⟩
        case round =>
          obtain ⟨m, hm, rfl, rfl, hbm⟩ := hrel
          by_cases hlt2 : m < j
          · have he : sealN (j - m) s.data.toList = sum4 (sealN (j - (m + 1)) s.data.toList) ++ sealN (j - (m + 1)) s.data.toList := by
              rw [show j - m = j - (m + 1) + 1 from by omega]; rfl
            have hln := sealN_length (j - m) s.data.toList
            have Hl := Lib.hid hln; clear hln
            rw [he] at Hl ⊢
            clear he
            go_wp2_with fail
            refine (open_any _ _ (by rw [size_mk, Hl.out]; rw [← size_list]; omega)).mono ?_
            rintro e w1 ⟨rfl, hb1⟩
            rw [show openL _ = _ from openL_seal _]
            go_wp2_with fail
            go_roundw
            case rel => exact ⟨m + 1, by omega, by go_num, rfl, hbm.trans (hb1.mono hbm.size)⟩
            case measure => simp [intOf]; omega
          · obtain rfl : m = j := by omega
            rw [Nat.sub_self]
            go_wp2_with fail
            refine (alive_any _).mono ?_
            rintro e w1 ⟨rfl, hb1⟩
            go_wp2_with fail
            go_ret
            exact ⟨by simp [sealN, ByteArray.toList_eq], hbm.trans (hb1.mono hbm.size)⟩
  · by_cases h1 : s.size ≤ 2000
    · by_cases h2 : 0 ≤ n
      · have h3 : 10 < n := by omega
        go_enter Try.func6, Try.ntmps6
        go_wp2_with (go_at_call 8; refine (alive_any _).mono ?_; rintro e w1 ⟨rfl, hb1⟩)
        go_ret
        exact ⟨rfl, hb1⟩
      · have h2' : n < 0 := by omega
        go_enter Try.func6, Try.ntmps6
        go_wp2_with (go_at_call 8; refine (alive_any _).mono ?_; rintro e w1 ⟨rfl, hb1⟩)
        go_ret
        exact ⟨rfl, hb1⟩
    · have h1' : (2000 : Int) < (s.size : Int) := by omega
      go_enter Try.func6, Try.ntmps6
      go_wp2_with (go_at_call 8; refine (alive_any _).mono ?_; rintro e w1 ⟨rfl, hb1⟩)
      go_ret
      exact ⟨rfl, hb1⟩
end Go.Proofs.Ythmmgnmobnblpaa
