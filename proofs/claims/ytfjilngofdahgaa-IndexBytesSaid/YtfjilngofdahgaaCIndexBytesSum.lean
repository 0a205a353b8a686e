import Derived.Test.YtfjilngofdahgaaCrc
import Derived.Test.YtfjilngofdahgaaJIndexBytes1
import Derived.Test.YtfjilngofdahgaaRows
import Derived.WalkKit
import Derived.WalkSpells
import Derived.Lib.Hide

namespace Go.Proofs.Ytfjilngofdahgaa
open Go.RowKit

theorem take_snoc (s : ByteArray) (k : Nat) (h : k < s.size) : s.data.toList.take (k + 1) = s.data.toList.take k ++ [s[k]] := by
  rw [List.take_succ_eq_append_getElem (by simpa using h)]; rfl
theorem take_succ_map (ss : List ByteArray) (k : Nat) (s : ByteArray) (h : ss[k]? = some s) : (ss.take (k + 1)).map (·.data.toList) = (ss.take k).map (·.data.toList) ++ [s.data.toList] := by
  rw [List.take_add_one, h, List.map_append]; rfl

set_option maxHeartbeats 400000 in
theorem sum_any (B n cap : Nat) (A : Option Addr) (ss : List ByteArray) (w : World) (h : SlR w B 1 A n (strVs ss)) (hn : n ≤ 9223372036854775807)
    (hs : ∀ s ∈ ss, s.size ≤ 9223372036854775807) :
    Calls Try.prog 80 #[.slice A n cap] w fun e w' => e = .returned (.int .u32 (crc (ss.map (·.data.toList)).flatten).toNat) ∧ w = w' := by
  have hl : ss.length = n := by have := h.len; simpa [strVs] using this
  subst hl
  have H := Lib.hid h; clear h
  go_enter Try.func80, Try.ntmps80
  go_wp2
  go_loop [3, 10] (fun x i => ∃ k : Nat, k ≤ ss.length ∧ i = .int .i64 k ∧ x = .int .u32 (crcRaw 4294967295#32 ((ss.take k).map (·.data.toList)).flatten).toNat) (fun _ i => ss.length - (intOf i).toNat)
  case atStart => exact ⟨0, Nat.zero_le _, rfl, rfl⟩
  case round =>
    obtain ⟨k, hk, rfl, rfl⟩ := hrel
    generalize hx : crcRaw 4294967295#32 ((ss.take k).map (·.data.toList)).flatten = x
    have Hx := Lib.hid hx; clear hx
    by_cases hlt : k < ss.length
    · obtain ⟨ad, u, hA, _, hu, hcell⟩ := H.out.get hlt
      subst hA
      obtain ⟨s, hg, rfl⟩ := strVs_get hu
      have hsz : s.size ≤ 9223372036854775807 := hs s (List.mem_of_getElem? hg)
      have Hg := Lib.hid hg; clear hg hu hs
      go_wp2
      go_loop [3, 16] (fun y i => ∃ m : Nat, m ≤ s.size ∧ i = .int .i64 m ∧ y = .int .u32 (crcRaw x (s.data.toList.take m)).toNat) (fun _ i => s.size - (intOf i).toNat)
      case atStart => exact ⟨0, Nat.zero_le _, rfl, rfl⟩
      case round =>
        obtain ⟨m, hm, rfl, rfl⟩ := hrel
        generalize hy : crcRaw x (s.data.toList.take m) = y
        have Hy := Lib.hid hy; clear hy
        by_cases hlm : m < s.size
        · go_wp2
          go_loop [3, 25] (fun z i => ∃ p : Nat, p ≤ 8 ∧ i = .int .i64 p ∧ z = .int .u32 (crcBits p (y ^^^ (s[m]).toBitVec.setWidth 32)).toNat) (fun _ i => 8 - (intOf i).toNat)
          case atStart => exact ⟨0, Nat.zero_le _, rfl, by rw [bits_xor_byte]; rfl⟩
          case round =>
            obtain ⟨p, hp, rfl, rfl⟩ := hrel
            generalize hz : crcBits p (y ^^^ (s[m]).toBitVec.setWidth 32) = z
            have Hz := Lib.hid hz; clear hz
            by_cases hlp : p < 8
            · go_wp2
              · go_round
                case rel => exact ⟨p + 1, by omega, by go_num, int_eq ((crcBit_odd z (by assumption)).trans (by rw [← Hz.out]; rfl))⟩
                case measure => simp [intOf]; omega
              · go_round
                case rel => exact ⟨p + 1, by omega, by go_num, int_eq ((crcBit_even z (by assumption)).trans (by rw [← Hz.out]; rfl))⟩
                case measure => simp [intOf]; omega
            · have hp8 : p = 8 := by omega
              subst hp8
              go_wp2
              go_round
              case rel => exact ⟨m + 1, by omega, by go_num, int_eq (by rw [take_snoc s m hlm, crcRaw_snoc, Hy.out, ← Hz.out]; rfl)⟩
              case measure => simp [intOf]; omega
        · go_wp2
          go_round
          case rel =>
            refine ⟨k + 1, by omega, by go_num, int_eq ?_⟩
            rw [take_succ_map ss k s Hg.out, List.flatten_append, crcRaw_append, Hx.out, ← Hy.out, List.take_of_length_le (by simp; omega)]
            simp
          case measure => simp [intOf]; omega
    · clear hs
      go_wp2
      go_ret
      refine ⟨?_, rfl⟩
      rw [bits_xor_ones, ← Hx.out, List.take_of_length_le (by omega)]
      rfl
end Go.Proofs.Ytfjilngofdahgaa
