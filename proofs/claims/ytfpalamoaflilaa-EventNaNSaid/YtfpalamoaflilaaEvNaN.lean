/- chapter 7: a number that is none; nought with the sign of minus. -/
import Derived.Test.YtfpalamoaflilaaEvSame
namespace Go.Proofs.Ytfpalamoaflilaa
open Go.RowKit
set_option maxHeartbeats 2000000
set_option maxRecDepth 100000
set_option linter.unusedVariables false
attribute [local go_sem] run_store_flt

theorem nanB_or (a : Nat) : nanB (a ||| 9218868437227405313) = true := by
  have h : (a ||| 9218868437227405313) % 2 ^ 63 = (a % 2 ^ 63) ||| 9218868437227405313 := by
    rw [Nat.or_mod_two_pow]
  have h2 : 9218868437227405313 ≤ (a ||| 9218868437227405313) % 2 ^ 63 := by rw [h]; exact Nat.right_le_or
  generalize (a ||| 9218868437227405313) = v at h2
  have hr : ∃ s m, Ieee.Format.read FloatKind.f64.format v = .nan s m := by
    unfold Ieee.Format.read
    have e1 : FloatKind.f64.format.signWeight = 2 ^ 63 := by decide
    have e2 : FloatKind.f64.format.binade = 4503599627370496 := by decide
    have e3 : FloatKind.f64.format.infRung = 9218868437227405312 := by decide
    dsimp only
    rw [e1, e2, e3, if_neg (by omega), if_neg (by omega), if_neg (by omega)]
    exact ⟨_, _, rfl⟩
  obtain ⟨s, m, hr⟩ := hr
  unfold nanB Ieee.Format.order
  rw [hr]
  rfl
theorem or_bits (a : Nat) (h : a < 18446744073709551616) : bits .or .u64 (a : Int) 9218868437227405313 = ((a ||| 9218868437227405313 : Nat) : Int) := by
  show IntKind.u64.wrap ((BitVec.ofInt 64 (a : Int) ||| BitVec.ofInt 64 9218868437227405313).toNat : Int) = _
  have e : (BitVec.ofInt 64 (a : Int) ||| BitVec.ofInt 64 9218868437227405313).toNat = a ||| 9218868437227405313 := by
    rw [BitVec.toNat_or, show BitVec.ofInt 64 (a : Int) = BitVec.ofNat 64 a from by simp, BitVec.toNat_ofNat, Nat.mod_eq_of_lt (by omega)]
    rfl
  rw [e]
  have : (a ||| 9218868437227405313) < 2 ^ 64 := Nat.or_lt_two_pow (by omega) (by omega)
  rw [IntKind.wrap_u64]
  omega

theorem nan_any (a : Nat) (w : World) (h : a < 18446744073709551616) : Calls Try.prog 32 #[.int .u64 (a : Int)] w fun e w' => (∃ v : Nat, e = .returned (.float .f64 v) ∧ nanB v = true ∧ v < 18446744073709551616) ∧ w = w' := by
  have hb := or_bits a h
  have hn := nanB_or a
  have hl : (a ||| 9218868437227405313) < 2 ^ 64 := Nat.or_lt_two_pow (by omega) (by omega)
  generalize (a ||| 9218868437227405313) = v at hb hn hl
  have Hn := Lib.hid hn; have Hl := Lib.hid hl
  clear hn hl
  go_enter Try.func32, Try.ntmps32
  go_wp2_with (first | simp only [run_frombits])
  go_ret
  exact ⟨⟨v, rfl, Hn.out, Hl.out⟩, rfl⟩
theorem copysign_any (w : World) : Calls Try.prog 66 #[.float .f64 0, .float .f64 13830554455654793216] w fun e w' => e = .returned (.float .f64 9223372036854775808) ∧ w = w' := by
  have h1 : ∀ w, (callFunc 86 #[.float .f64 0]).run Try.prog w = .ok (.value (.int .u64 0)) w := run_floatbits 0
  have h2 : ∀ w, (callFunc 86 #[.float .f64 13830554455654793216]).run Try.prog w = .ok (.value (.int .u64 13830554455654793216)) w := run_floatbits 13830554455654793216
  have h3 : ∀ w, (callFunc 65 #[.int .u64 9223372036854775808]).run Try.prog w = .ok (.value (.float .f64 9223372036854775808)) w := run_frombits 9223372036854775808
  have b1 : bits .andNot .u64 0 9223372036854775808 = 0 := by decide
  have b2 : bits .and .u64 13830554455654793216 9223372036854775808 = 9223372036854775808 := by decide
  have b3 : bits .or .u64 0 9223372036854775808 = 9223372036854775808 := by decide
  go_enter Try.func66, Try.ntmps66
  go_wp2_with (first | simp only [h1] | simp only [h2] | simp only [h3])
  go_ret
  exact ⟨rfl, rfl⟩
theorem minus_any (w : World) : Calls Try.prog 33 #[] w fun e w' => e = .returned (.float .f64 9223372036854775808) ∧ w = w' := by
  have H := Lib.hid copysign_any
  go_enter Try.func33, Try.ntmps33
  go_wp2_with fail
  refine (H.out _).mono ?_
  rintro e w1 ⟨rfl, rfl⟩
  go_wp2_with fail
  go_ret
  exact ⟨rfl, rfl⟩
end Go.Proofs.Ytfpalamoaflilaa
