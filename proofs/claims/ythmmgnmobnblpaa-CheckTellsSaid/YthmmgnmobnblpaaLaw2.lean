/- chapter 2's law functions, walked. -/
import Derived.Test.YthmmgnmobnblpaaCheck
namespace Go.Proofs.Ythmmgnmobnblpaa
open Go.RowKit
set_option maxHeartbeats 400000

theorem alive_crc : ((crc (List.map (fun x : ByteArray => x.data.toList) [⟨#[49, 50, 51, 52]⟩, ⟨#[53, 54, 55, 56, 57]⟩]).flatten).toNat : Int) = 3421780262 := by decide +kernel

theorem alive_any (w : World) :
    Calls Try.prog 8 #[] w fun e w' => e = .returned (.bool true) ∧ Below w.heap.size w w' := by
  go_enter Try.func8, Try.ntmps8
  go_wp2_with fail
  refine (seal_any _ _ (by decide)).mono ?_
  rintro e w1 ⟨rfl, hb1⟩
  go_wp2_with fail
  refine (open_any _ _ (by rw [size_mk, List.length_append, sum4_length]; decide)).mono ?_
  rintro e w2 ⟨rfl, hb2⟩
  rw [show openL _ = _ from openL_seal _]
  go_wp2_with fail
  refine (sum_any (w2.heap.size + 1) 2 2 _ [⟨#[49, 50, 51, 52]⟩, ⟨#[53, 54, 55, 56, 57]⟩] _ (by exact SlR.new _ _ rfl _ #[.string ⟨#[49, 50, 51, 52]⟩, .string ⟨#[53, 54, 55, 56, 57]⟩] rfl) (by omega) (by intro s hs; simp at hs; rcases hs with rfl | rfl <;> decide)).mono ?_
  rintro e w3 ⟨rfl, rfl⟩
  rw [alive_crc]
  go_wp2_with fail
  go_ret
  exact ⟨rfl, (hb1.trans (hb2.mono hb1.size)).alloc (Nat.le_trans hb1.size hb2.size) _⟩
end Go.Proofs.Ythmmgnmobnblpaa
