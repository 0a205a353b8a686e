/- chapter 2's law functions, walked. -/
import Derived.Test.YthmmgnmobnblpaaCheck
namespace Go.Proofs.Ythmmgnmobnblpaa
open Go.RowKit
set_option maxHeartbeats 400000

theorem openL_seal (l : List UInt8) : openL (sum4 l ++ l) = (l, 0) := by
  have h4 := sum4_length l
  unfold openL
  rw [if_neg (by rw [List.length_append]; omega)]
  simp only [List.take_append, List.drop_append, h4]
  rw [show List.take 4 (sum4 l) = sum4 l from List.take_of_length_le (by omega), show List.drop 4 (sum4 l) = [] from List.drop_of_length_le (by omega)]
  simp

theorem alive_crc : ((crc (List.map (fun x : ByteArray => x.data.toList) [⟨#[49, 50, 51, 52]⟩, ⟨#[53, 54, 55, 56, 57]⟩]).flatten).toNat : Int) = 3421780262 := by decide +kernel

theorem alive_any (w : World) :
    Calls Try.prog 8 #[] w fun e w' => e = .returned (.bool true) ∧ Below w.heap.size w w' := by
  go_enter Try.func8, Try.ntmps8
  go_wp2_with fail
  refine (seal_any _ _ (by decide)).mono ?_
  rintro e w1 ⟨rfl, hb1⟩
  go_wp2_with fail
  refine (open_any _ _ (by rw [size_mk, List.length_append, sum4_length]; decide)).mono ?_
  rintro e w2 ⟨rfl, hb2⟩
  rw [show openL _ = _ from openL_seal _]
  go_wp2_with fail
  refine (sum_any (w2.heap.size + 1) 2 2 _ [⟨#[49, 50, 51, 52]⟩, ⟨#[53, 54, 55, 56, 57]⟩] _ (by exact SlR.new _ _ rfl _ #[.string ⟨#[49, 50, 51, 52]⟩, .string ⟨#[53, 54, 55, 56, 57]⟩] rfl) (by omega) (by intro s hs; simp at hs; rcases hs with rfl | rfl <;> decide)).mono ?_
  rintro e w3 ⟨rfl, rfl⟩
  rw [alive_crc]
  go_wp2_with fail
  go_ret
  exact ⟨rfl, (hb1.trans (hb2.mono hb1.size)).alloc (Nat.le_trans hb1.size hb2.size) _⟩

/-- sealed n times -/
def sealN : Nat → List UInt8 → List UInt8
  | 0, l => l
  | n + 1, l => sum4 (sealN n l) ++ sealN n l
theorem sealN_length (n : Nat) (l : List UInt8) : (sealN n l).length = l.length + 4 * n := by
  induction n with
  | zero => rfl
  | succ n ih => rw [sealN, List.length_append, sum4_length, ih]; omega

theorem checkTwice_any (s : ByteArray) (n : Int) (w : World) (hs : s.size ≤ 9223372036854775807) :
    Calls Try.prog 6 #[.string s, .int .i64 n] w fun e w' => e = .returned (.bool true) ∧ Below w.heap.size w w' := by
  by_cases hc : s.size ≤ 2000 ∧ 0 ≤ n ∧ n ≤ 10
  · obtain ⟨h1, h2, h3⟩ := hc
    obtain ⟨k, rfl⟩ := Int.eq_ofNat_of_zero_le h2
    have hsl : s.data.toList.length ≤ 2000 := by rw [← size_list]; exact h1
    go_enter Try.func6, Try.ntmps6
    go_wp2_with fail
    go_loopw [5, 6] (fun t i wr => ∃ j : Nat, j ≤ k ∧ i = .int .i64 j ∧ t = .string ⟨(sealN j s.data.toList).toArray⟩ ∧ Below w.heap.size w wr) (fun _ i _ => k - (intOf i).toNat)
    case atStart => exact ⟨0, Nat.zero_le _, rfl, by simp [sealN], Below.refl _ _⟩
    case round =>
      obtain ⟨j, hj, rfl, rfl, hb⟩ := hrel
      have hlen := sealN_length j s.data.toList
      by_cases hlt : j < k
      · have Hl := Lib.hid hlen; clear hlen
        go_wp2_with fail
        refine (seal_any _ _ (by rw [size_mk, Hl.out]; omega)).mono ?_
        rintro e w1 ⟨rfl, hb1⟩
        go_wp2_with fail
        go_roundw
        case rel => exact ⟨j + 1, by omega, by go_num, rfl, hb.trans (hb1.mono hb.size)⟩
        case measure => simp [intOf]; omega
      · obtain rfl : j = k := by omega
        have hlm : (((sealN j s.data.toList).length : Int) != (s.size : Int) + 4 * (j : Int)) = false := by rw [hlen, size_list]; simp
        clear hlen
        go_wp2_with fail
        go_loopw [5, 7] (fun t i wq => ∃ m : Nat, m ≤ j ∧ i = .int .i64 m ∧ t = .string ⟨(sealN (j - m) s.data.toList).toArray⟩ ∧ Below w.heap.size w wq) (fun _ i _ => j - (intOf i).toNat)
        case atStart => exact ⟨0, Nat.zero_le _, rfl, rfl, hb⟩
        case round =>
          obtain ⟨m, hm, rfl, rfl, hbm⟩ := hrel
          by_cases hlt2 : m < j
          · have he : sealN (j - m) s.data.toList = sum4 (sealN (j - (m + 1)) s.data.toList) ++ sealN (j - (m + 1)) s.data.toList := by
              rw [show j - m = j - (m + 1) + 1 from by omega]; rfl
            have hln := sealN_length (j - m) s.data.toList
            have Hl := Lib.hid hln; clear hln
            rw [he] at Hl ⊢
            clear he
            go_wp2_with fail
            refine (open_any _ _ (by rw [size_mk, Hl.out]; rw [← size_list]; omega)).mono ?_
            rintro e w1 ⟨rfl, hb1⟩
            rw [show openL _ = _ from openL_seal _]
            go_wp2_with fail
            go_roundw
            case rel => exact ⟨m + 1, by omega, by go_num, rfl, hbm.trans (hb1.mono hbm.size)⟩
            case measure => simp [intOf]; omega
          · obtain rfl : m = j := by omega
            rw [Nat.sub_self]
            go_wp2_with fail
            refine (alive_any _).mono ?_
            rintro e w1 ⟨rfl, hb1⟩
            go_wp2_with fail
            go_ret
            exact ⟨by simp [sealN, ByteArray.toList_eq], hbm.trans (hb1.mono hbm.size)⟩
  · by_cases h1 : s.size ≤ 2000
    · by_cases h2 : 0 ≤ n
      · have h3 : 10 < n := by omega
        go_enter Try.func6, Try.ntmps6
        go_wp2_with (go_at_call 8; refine (alive_any _).mono ?_; rintro e w1 ⟨rfl, hb1⟩)
        go_ret
        exact ⟨rfl, hb1⟩
      · have h2' : n < 0 := by omega
        go_enter Try.func6, Try.ntmps6
        go_wp2_with (go_at_call 8; refine (alive_any _).mono ?_; rintro e w1 ⟨rfl, hb1⟩)
        go_ret
        exact ⟨rfl, hb1⟩
    · have h1' : (2000 : Int) < (s.size : Int) := by omega
      go_enter Try.func6, Try.ntmps6
      go_wp2_with (go_at_call 8; refine (alive_any _).mono ?_; rintro e w1 ⟨rfl, hb1⟩)
      go_ret
      exact ⟨rfl, hb1⟩
end Go.Proofs.Ythmmgnmobnblpaa
