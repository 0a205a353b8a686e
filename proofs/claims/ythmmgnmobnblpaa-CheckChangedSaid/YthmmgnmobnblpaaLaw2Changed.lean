/- chapter 2: CheckChanged, walked. -/
import Derived.Test.YthmmgnmobnblpaaLaw2
import Derived.Test.YthmmgnmobnblpaaBytes
namespace Go.Proofs.Ythmmgnmobnblpaa
open Go.RowKit
set_option maxHeartbeats 400000
set_option linter.unusedVariables false

theorem bits_xor_u8 (x y : UInt8) : bits .xor .u8 (x.toNat : Int) (y.toNat : Int) = ((x ^^^ y).toNat : Int) := by
  show IntKind.u8.wrap (((BitVec.ofInt 8 (x.toNat : Int)) ^^^ (BitVec.ofInt 8 (y.toNat : Int))).toNat : Int) = _
  rw [show BitVec.ofInt 8 (x.toNat : Int) = x.toBitVec from by simp, show BitVec.ofInt 8 (y.toNat : Int) = y.toBitVec from by simp]
  rw [show (x.toBitVec ^^^ y.toBitVec).toNat = (x ^^^ y).toNat from rfl]
  have := (x ^^^ y).toNat_lt
  exact IntWalk.u8_in _ (by omega)
theorem xor_ne (x y : UInt8) (h : y ≠ 0) : x ^^^ y ≠ x := by
  intro e
  apply h
  have := congrArg (x ^^^ ·) e
  simpa [← UInt8.xor_assoc] using this
theorem set_getElem_self (l : List UInt8) (p : Nat) (hp : p < l.length) : l.set p l[p] = l := by simp

theorem checkChanged_any (s : ByteArray) (at_ by_ : Int) (w : World) (hs : s.size ≤ 9223372036854775807) (hat : at_ ≤ 9223372036854775807) :
    Calls Try.prog 4 #[.string s, .int .i64 at_, .int .i64 by_] w fun e w' => e = .returned (.bool true) ∧ Below w.heap.size w w' := by
  by_cases hc : s.size ≤ 3000 ∧ 0 ≤ at_
  · obtain ⟨h1, h2⟩ := hc
    obtain ⟨d, hd⟩ : ∃ d : UInt8, (d.toNat : Int) = by_ % 256 := ⟨UInt8.ofNat (by_ % 256).toNat, by simp; omega⟩
    have Hd := Lib.hid hd; clear hd
    go_enter Try.func4, Try.ntmps4
    go_wp2_with fail
    refine (seal_any s _ (by omega)).mono ?_
    rintro e w1 ⟨rfl, hb1⟩
    have hll : (sum4 s.data.toList ++ s.data.toList).length = s.size + 4 := by rw [List.length_append, sum4_length, size_list]; omega
    have hop := openL_seal s.data.toList
    have hch := openL_changed s.data.toList
    generalize sum4 s.data.toList ++ s.data.toList = l at hll hop hch ⊢
    obtain ⟨p, hp, hpl⟩ : ∃ p : Nat, at_ % (l.length : Int) = (p : Int) ∧ p < l.length := ⟨(at_ % (l.length : Int)).toNat, by have := Int.emod_nonneg at_ (show (l.length : Int) ≠ 0 by omega); omega, by have := Int.emod_lt_of_pos at_ (show (0 : Int) < (l.length : Int) by omega); omega⟩
    have Hop := Lib.hid hop; clear hop
    have Hch := Lib.hid hch; clear hch
    have hll2 : ((l.length : Int) != (s.size : Int) + 4) = false := by rw [hll]; simp
    have Hll := Lib.hid hll
    have hl3 : l.length ≤ 3004 := by omega
    have hl4 : 4 ≤ l.length := by omega
    clear hll
    go_wp2_with ((with_reducible refine wpList_to_bytes _ 9 35 5 (.tmp 23) ⟨l.toArray⟩ rfl rfl ?hx Try.underlying9 Try.underlying35 Try.underlying5 ?_); (case hx => rfl); intro g cap w2 hg hcap hb2 hrow; have Hg := Lib.hid hg; clear hg)
    have hgw : w.heap.size ≤ g := by rw [Hg.out]; exact hb1.size
    have hb12 := hb1.trans (hb2.mono hb1.size)
    clear hb1 hb2
    have hrow : ByteRow w2 g l := by simpa using hrow
    have hstr2 := run_str_row (P := Try.prog) w2 35 9 5 Try.underlying35 Try.underlying5 Try.underlying9 g cap l hrow
    go_wp2_with fail
    rw [hstr2]
    clear hstr2
    go_wp2_with fail
    refine (open_any ⟨l.toArray⟩ _ (by rw [size_mk]; omega)).mono ?_
    rintro e w3 ⟨rfl, hb3⟩
    rw [show openL (ByteArray.mk l.toArray).data.toList = _ from Hop.out]
    have hrow3 := hrow.below hb3 hrow.lt
    have hb13 := hb12.trans (hb3.mono hb12.size)
    clear hrow hb12 hb3
    have hcell := hrow3.cell p hpl
    have hfree := hrow3.free p hpl
    have hrow4 := hrow3.set p hpl (l[p] ^^^ d)
    have hb14 := hb13.setCell (p := ⟨g, p, none⟩) (by exact hgw) (byteV (l[p] ^^^ d))
    have hstr4 := run_str_row (P := Try.prog) _ 35 9 5 Try.underlying35 Try.underlying5 Try.underlying9 g cap _ hrow4
    rw [List.length_set] at hstr4
    have hxor : bits .xor .u8 (l[p].toNat : Int) (by_ % 256) = ((l[p] ^^^ d).toNat : Int) := by rw [← Hd.out]; exact bits_xor_u8 _ _
    unfold byteV at hcell hstr4
    generalize hc : l[p] ^^^ d = c at *
    have Hc := Lib.hid hc; clear hc
    have Hrow4 := Lib.hid hrow4; clear hrow4 hrow3
    have Hb14 := Lib.hid hb14; clear hb14
    go_wp2_with fail
    clear hstr4
    refine (open_any ⟨(l.set p c).toArray⟩ _ (by rw [size_mk, List.length_set]; omega)).mono ?_
    rintro e w5 ⟨rfl, hb5⟩
    have hb15 := Hb14.out.trans (hb5.mono Hb14.out.size)
    obtain ⟨q, hq, hq1, hq3⟩ : ∃ q : Nat, min (s.size : Int) 3 = (q : Int) ∧ q ≤ s.size ∧ q ≤ 3 := ⟨min s.size 3, by omega, by omega, by omega⟩
    have hshort : openL (s.extract 0 q).data.toList = ([], 5) := by
      unfold openL; rw [if_pos]; rw [str_to]; simp; omega
    have Hshort := Lib.hid hshort; clear hshort
    by_cases hd0 : d = 0
    · have hby : (by_ % 256 == 0) = true := by rw [← Hd.out, hd0]; rfl
      have hsame : l.set p c = l := by rw [← Hc.out, hd0, UInt8.xor_zero, set_getElem_self]
      rw [hsame, show openL (ByteArray.mk l.toArray).data.toList = _ from Hop.out]
      clear hsame
      go_wp2_with fail
      refine (open_any _ _ (by simp; omega)).mono ?_
      rintro e w6 ⟨rfl, hb6⟩
      rw [Hshort.out]
      go_wp2_with fail
      refine (alive_any _).mono ?_
      rintro e w7 ⟨rfl, hb7⟩
      go_wp2_with fail
      go_ret
      exact ⟨rfl, hb15.trans ((hb6.trans (hb7.mono hb6.size)).mono hb15.size)⟩
    · have hby : (by_ % 256 == 0) = false := by rw [← Hd.out, beq_eq_false_iff_ne]; intro e; apply hd0; apply UInt8.toNat_inj.1; simpa using e
      have hbad : openL (l.set p c) = ([], 7) := Hch.out p hpl c (by rw [← Hc.out]; exact xor_ne _ _ hd0)
      rw [show openL (ByteArray.mk (l.set p c).toArray).data.toList = _ from hbad]
      clear hbad
      go_wp2_with fail
      refine (open_any _ _ (by simp; omega)).mono ?_
      rintro e w6 ⟨rfl, hb6⟩
      rw [Hshort.out]
      go_wp2_with fail
      refine (alive_any _).mono ?_
      rintro e w7 ⟨rfl, hb7⟩
      go_wp2_with fail
      go_ret
      exact ⟨rfl, hb15.trans ((hb6.trans (hb7.mono hb6.size)).mono hb15.size)⟩
  · by_cases h1 : s.size ≤ 3000
    · have h2 : at_ < 0 := by omega
      go_enter Try.func4, Try.ntmps4
      go_wp2_with (go_at_call 8; refine (alive_any _).mono ?_; rintro e w1 ⟨rfl, hb1⟩)
      go_ret
      exact ⟨rfl, hb1⟩
    · have h1' : (3000 : Int) < (s.size : Int) := by omega
      go_enter Try.func4, Try.ntmps4
      go_wp2_with (go_at_call 8; refine (alive_any _).mono ?_; rintro e w1 ⟨rfl, hb1⟩)
      go_ret
      exact ⟨rfl, hb1⟩
end Go.Proofs.Ythmmgnmobnblpaa
