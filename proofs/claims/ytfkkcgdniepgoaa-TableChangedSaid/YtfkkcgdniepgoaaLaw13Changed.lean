/- chapter 13: TableChanged, walked. -/
import Derived.Test.YtfkkcgdniepgoaaTblAlive
namespace Go.Proofs.Ytfkkcgdniepgoaa
open Go.RowKit
set_option maxHeartbeats 4000000
set_option maxRecDepth 100000
set_option linter.unusedVariables false

theorem tableChanged_any (A : Option Addr) (n c : Nat) (l : List En) (at_ by_ : Int) (w : World) (hl : l.length = n) (hr : SlR w w.heap.size 3 A n (enVs l)) (hnl : n ≤ 9223372036854775807) (hat : at_ ≤ 9223372036854775807) :
    Calls Try.prog 3 #[.slice A n c, .int .i64 at_, .int .i64 by_] w fun e w' => e = .returned (.bool true) ∧ Below w.heap.size w w' := by
  by_cases hc : n ≤ 60 ∧ 0 ≤ at_ ∧ ¬ by_ % 256 = 0
  · obtain ⟨h1, h2, h3⟩ := hc
    have hby : (by_ % 256 == 0) = false := by rw [beq_eq_false_iff_ne]; exact h3
    obtain ⟨d, hd⟩ : ∃ d : UInt8, (d.toNat : Int) = by_ % 256 := ⟨UInt8.ofNat (by_ % 256).toNat, by simp; omega⟩
    have hd0 : d ≠ 0 := by rintro rfl; apply h3; rw [← hd]; rfl
    have Hd := Lib.hid hd; clear hd h3
    have hbuild := build_any A n c w.heap.size l w hr (Nat.le_refl _) (by omega)
    cases hmay : mayT l with
    | false =>
      rw [buildT_no hmay] at hbuild
      have Hbuild := Lib.hid hbuild
      clear hbuild hmay hr hd0 Hd
      go_enter Try.func3, Try.ntmps3
      go_wp2_with fail
      refine Hbuild.out.mono ?_
      rintro x w1 ⟨rfl, hb1⟩
      go_wp2_with fail
      refine (alive13_any _).mono ?_
      rintro x w2 ⟨rfl, hb2⟩
      go_wp2_with fail
      go_ret
      exact ⟨rfl, hb1.trans (hb2.mono hb1.size)⟩
    | true =>
      rw [buildT_yes hmay] at hbuild
      have hch := openT_changed l hmay
      have hll := sealT_length l
      rw [hl] at hll
      have Hbuild := Lib.hid hbuild
      clear hbuild
      generalize sealT l = b at hll hch Hbuild
      obtain ⟨p, hp, hpl⟩ : ∃ p : Nat, at_ % (b.length : Int) = (p : Int) ∧ p < b.length := ⟨(at_ % (b.length : Int)).toNat, by have := Int.emod_nonneg at_ (show (b.length : Int) ≠ 0 by omega); omega, by have := Int.emod_lt_of_pos at_ (show (0 : Int) < (b.length : Int) by omega); omega⟩
      have hch2 := hch p hpl (b[p] ^^^ d) (xor_ne _ _ hd0)
      have hll2 : ((b.length : Int) != 12 + 24 * (n : Int)) = false := by rw [hll]; simp
      have hl3 : b.length ≤ 3012 := by omega
      have hl4 : 4 ≤ b.length := by omega
      clear hch hd0 hmay hr hl hll
      have hxor : bits .xor .u8 (b[p].toNat : Int) (by_ % 256) = ((b[p] ^^^ d).toNat : Int) := by rw [← Hd.out]; exact bits_xor_u8 _ _
      generalize b[p] ^^^ d = y at hch2 hxor
      have hsr : (b.set p y).length = b.length := List.length_set
      obtain ⟨r, hr⟩ : ∃ r, b.set p y = r := ⟨_, rfl⟩
      rw [hr] at hch2 hsr
      have hrl : r.length ≤ 3012 := by omega
      have Hr := Lib.hid hr; have Hsr := Lib.hid hsr; have Hch2 := Lib.hid hch2
      clear hr hsr hch2
      go_enter Try.func3, Try.ntmps3
      go_wp2_with fail
      refine Hbuild.out.mono ?_
      rintro x w1 ⟨rfl, hb1⟩
      clear Hbuild
      go_wp2_with ((with_reducible refine wpList_to_bytes _ 9 27 5 (.tmp 44) ⟨b.toArray⟩ rfl rfl ?hx Try.underlying9 Try.underlying27 Try.underlying5 ?_); (case hx => rfl); intro g cap w2 hg hcap hb2 hrow; have Hg := Lib.hid hg; clear hg; have hcell := hrow.cell p hpl; have hfree := hrow.free p hpl; have Hrow := Lib.hid hrow; clear hrow; simp only [byteV] at hcell)
      have hgw : w.heap.size ≤ g := by rw [Hg.out]; exact hb1.size
      have hb14 := (hb1.trans (hb2.mono hb1.size)).setCell (p := ⟨g, p, none⟩) (by exact hgw) (byteV y)
      have hrow4 := Hrow.out.set p hpl y
      rw [Hr.out] at hrow4
      have hstr4 := run_str_row (P := Try.prog) _ 27 9 5 Try.underlying27 Try.underlying5 Try.underlying9 g cap _ hrow4
      rw [Hsr.out] at hstr4
      unfold byteV at hstr4
      have Hb14 := Lib.hid hb14
      clear hrow4 hb14 hb1 hb2 hfree hcell
      rw [hstr4]
      clear hstr4
      go_wp2_with fail
      refine (tblOpen_any ⟨r.toArray⟩ _ (by rw [size_mk]; omega)).mono ?_
      rintro x w5 ⟨q, rfl, hq, _, hb5⟩
      rw [show openT (ByteArray.mk r.toArray).data.toList = ([], 7) from Hch2.out] at hq ⊢
      obtain rfl := hq (by decide)
      have hb15 := Hb14.out.trans (hb5.mono Hb14.out.size)
      clear hb5 hq
      go_wp2_with fail
      refine (alive13_any _).mono ?_
      rintro x w6 ⟨rfl, hb6⟩
      go_wp2_with fail
      go_ret
      exact ⟨rfl, hb15.trans (hb6.mono hb15.size)⟩
  · by_cases h1 : n ≤ 60
    · by_cases h2 : at_ < 0
      · clear hr
        go_enter Try.func3, Try.ntmps3
        go_wp2_with fail
        refine (alive13_any _).mono ?_; rintro e w1 ⟨rfl, hb1⟩
        go_wp2_with fail
        go_ret
        exact ⟨rfl, hb1⟩
      · have h2' : 0 ≤ at_ := by omega
        have h3 : (by_ % 256 == 0) = true := by rw [beq_iff_eq]; omega
        clear hc hr
        go_enter Try.func3, Try.ntmps3
        go_wp2_with fail
        refine (alive13_any _).mono ?_; rintro e w1 ⟨rfl, hb1⟩
        go_wp2_with fail
        go_ret
        exact ⟨rfl, hb1⟩
    · have h1' : (60 : Int) < (n : Int) := by omega
      clear hc hr
      go_enter Try.func3, Try.ntmps3
      go_wp2_with fail
      refine (alive13_any _).mono ?_; rintro e w1 ⟨rfl, hb1⟩
      go_wp2_with fail
      go_ret
      exact ⟨rfl, hb1⟩
end Go.Proofs.Ytfkkcgdniepgoaa
