/- chapter 8: FrameChanged, walked. -/
import Derived.Test.YtfkdkhcpmoohiaaLaw8
namespace Go.Proofs.Ytfkdkhcpmoohiaa
open Go.RowKit
set_option maxHeartbeats 400000
set_option maxRecDepth 100000
set_option linter.unusedVariables false


/-- a frame of which one byte is another one is not read as the same body, from either end -/
theorem frame_changed (b : List UInt8) (p : Nat) (hp : p < (frameL b).length) (c : UInt8) (hc : c ≠ (frameL b)[p]) :
    ((firstL ((frameL b).set p c)).2.2 = 0 → (firstL ((frameL b).set p c)).1 ≠ b) ∧ ((lastL ((frameL b).set p c)).2.2 = 0 → (lastL ((frameL b).set p c)).1 ≠ b) := by
  have hne : (frameL b).set p c ≠ frameL b := by
    intro e
    have := congrArg (fun x => x[p]?) e
    simp only [List.getElem?_set_self hp, List.getElem?_eq_getElem hp] at this
    exact hc (by injection this)
  have hl : ((frameL b).set p c).length = b.length + 12 := by rw [List.length_set, frameL_length]
  constructor
  · intro h0 hx
    have := first_ok (b := (frameL b).set p c) (x := (firstL ((frameL b).set p c)).1) (m := (firstL ((frameL b).set p c)).2.1) (by rw [← h0])
    obtain ⟨hm, _, _, ht⟩ := this
    rw [hx] at hm ht
    rw [List.take_of_length_le (by omega)] at ht
    exact hne ht
  · intro h0 hx
    have := last_ok (b := (frameL b).set p c) (x := (lastL ((frameL b).set p c)).1) (m := (lastL ((frameL b).set p c)).2.1) (by rw [← h0])
    obtain ⟨hm, _, _, ht⟩ := this
    rw [hx] at hm ht
    rw [hl, hm, Nat.sub_self, List.drop_zero] at ht
    exact hne ht

theorem frameChanged_any (s : ByteArray) (at_ by_ : Int) (w : World) (hs : s.size ≤ 9223372036854775807) (hat : at_ ≤ 9223372036854775807) :
    Calls Try.prog 3 #[.string s, .int .i64 at_, .int .i64 by_] w fun e w' => e = .returned (.bool true) ∧ Below w.heap.size w w' := by
  by_cases hc : s.size ≤ 3000 ∧ 0 ≤ at_ ∧ ¬ by_ % 256 = 0
  · obtain ⟨h1, h2, h3⟩ := hc
    have hby : (by_ % 256 == 0) = false := by rw [beq_eq_false_iff_ne]; exact h3
    obtain ⟨d, hd⟩ : ∃ d : UInt8, (d.toNat : Int) = by_ % 256 := ⟨UInt8.ofNat (by_ % 256).toNat, by simp; omega⟩
    have hd0 : d ≠ 0 := by rintro rfl; apply h3; rw [← hd]; rfl
    have Hd := Lib.hid hd; clear hd h3
    have hsl := size_list s
    have hll : (frameL s.data.toList).length = s.size + 12 := by rw [frameL_length, hsl]
    have hch := frame_changed s.data.toList
    have hpl0 := putL_ok (b := s.data.toList) (by omega)
    generalize frameL s.data.toList = l at hll hch hpl0
    obtain ⟨p, hp, hpl⟩ : ∃ p : Nat, at_ % (l.length : Int) = (p : Int) ∧ p < l.length := ⟨(at_ % (l.length : Int)).toNat, by have := Int.emod_nonneg at_ (show (l.length : Int) ≠ 0 by omega); omega, by have := Int.emod_lt_of_pos at_ (show (0 : Int) < (l.length : Int) by omega); omega⟩
    have hch2 := hch p hpl (l[p] ^^^ d) (xor_ne _ _ hd0)
    have hll2 : ((l.length : Int) != (s.size : Int) + 12) = false := by rw [hll]; simp
    have hl3 : l.length ≤ 3012 := by omega
    have hl4 : 4 ≤ l.length := by omega
    have Hp0 := Lib.hid hpl0
    clear hll hch hsl hpl0 hd0
    have hxor : bits .xor .u8 (l[p].toNat : Int) (by_ % 256) = ((l[p] ^^^ d).toNat : Int) := by rw [← Hd.out]; exact bits_xor_u8 _ _
    generalize l[p] ^^^ d = c at hch2 hxor
    have hsr : (l.set p c).length = l.length := List.length_set
    obtain ⟨r, hr⟩ : ∃ r, l.set p c = r := ⟨_, rfl⟩
    rw [hr] at hch2 hsr
    have hrl : r.length ≤ 3012 := by omega
    obtain ⟨f, hf⟩ : ∃ f, firstL r = f := ⟨_, rfl⟩
    obtain ⟨q, hq⟩ : ∃ q, lastL r = q := ⟨_, rfl⟩
    rw [hf, hq] at hch2
    have Hf := Lib.hid hf; have Hq := Lib.hid hq; have Hr := Lib.hid hr; have Hsr := Lib.hid hsr; have Hch2 := Lib.hid hch2
    clear hf hq hr hsr hch2
    go_enter Try.func3, Try.ntmps3
    go_wp2_with fail
    refine (fput_any s _ (by omega)).mono ?_
    rintro e w1 ⟨rfl, hb1⟩
    rw [Hp0.out]
    go_wp2_with ((with_reducible refine wpList_to_bytes _ 9 26 5 (.tmp 44) ⟨l.toArray⟩ rfl rfl ?hx Try.underlying9 Try.underlying26 Try.underlying5 ?_); (case hx => rfl); intro g cap w2 hg hcap hb2 hrow; have Hg := Lib.hid hg; clear hg; have hcell := hrow.cell p hpl; have hfree := hrow.free p hpl; have Hrow := Lib.hid hrow; clear hrow; simp only [byteV] at hcell)
    have hgw : w.heap.size ≤ g := by rw [Hg.out]; exact hb1.size
    have hb14 := (hb1.trans (hb2.mono hb1.size)).setCell (p := ⟨g, p, none⟩) (by exact hgw) (byteV c)
    have hrow4 := Hrow.out.set p hpl c
    rw [Hr.out] at hrow4
    have hstr4 := run_str_row (P := Try.prog) _ 26 9 5 Try.underlying26 Try.underlying5 Try.underlying9 g cap _ hrow4
    rw [Hsr.out] at hstr4
    unfold byteV at hstr4
    have Hrow4 := Lib.hid hrow4; have Hb14 := Lib.hid hb14
    clear hrow4 hb14 hb1 hb2 hfree hcell
    rw [hstr4]
    clear hstr4
    go_wp2_with fail
    refine (first_any ⟨r.toArray⟩ _ (by rw [size_mk]; omega)).mono ?_
    rintro e w5 ⟨rfl, hb5⟩
    rw [show firstL (ByteArray.mk r.toArray).data.toList = f from Hf.out]
    have hrow5 := Hrow4.out.below hb5 Hrow4.out.lt
    have hb15 := Hb14.out.trans (hb5.mono Hb14.out.size)
    have hstr5 := run_str_row (P := Try.prog) _ 26 9 5 Try.underlying26 Try.underlying5 Try.underlying9 g cap _ hrow5
    rw [Hsr.out] at hstr5
    clear hb5
    go_wp2_with fail
    (try rw [hstr5]; go_wp2_with fail)
    clear hstr5
    refine (last_any ⟨r.toArray⟩ _ (by rw [size_mk]; omega)).mono ?_
    rintro e w6 ⟨rfl, hb6⟩
    rw [show lastL (ByteArray.mk r.toArray).data.toList = q from Hq.out]
    go_wp2_with fail
    refine (alive8_any _).mono ?_
    rintro e w7 ⟨rfl, hb7⟩
    have hbz := hb15.trans ((hb6.trans (hb7.mono hb6.size)).mono hb15.size)
    clear hb6 hb7 hb15
    have t1 : (f.2.2 != 0) = true ∨ (f.2.2 != 0) = false ∧ (f.1 == s.toList) = false := by
      by_cases h : f.2.2 = 0
      · right; exact ⟨by rw [h]; rfl, by rw [ByteArray.toList_eq]; simpa using Hch2.out.1 h⟩
      · left; rw [bne_iff_ne]; exact h
    have t2 : (q.2.2 != 0) = true ∨ (q.2.2 != 0) = false ∧ (q.1 == s.toList) = false := by
      by_cases h : q.2.2 = 0
      · right; exact ⟨by rw [h]; rfl, by rw [ByteArray.toList_eq]; simpa using Hch2.out.2 h⟩
      · left; rw [bne_iff_ne]; exact h
    have T2 := Lib.hid t2; clear t2
    rcases t1 with t1 | ⟨t1, t1'⟩ <;> rcases T2.out with t2 | ⟨t2, t2'⟩
    all_goals
      go_wp2_with fail
      go_ret
      exact ⟨rfl, hbz⟩
  · by_cases h1 : s.size ≤ 3000
    · by_cases h2 : at_ < 0
      · go_enter Try.func3, Try.ntmps3
        go_wp2_with (go_at_call 8; refine (alive8_any _).mono ?_; rintro e w1 ⟨rfl, hb1⟩)
        go_ret
        exact ⟨rfl, hb1⟩
      · have h2' : 0 ≤ at_ := by omega
        have h3 : (by_ % 256 == 0) = true := by rw [beq_iff_eq]; omega
        clear hc
        go_enter Try.func3, Try.ntmps3
        go_wp2_with (go_at_call 8; refine (alive8_any _).mono ?_; rintro e w1 ⟨rfl, hb1⟩)
        go_ret
        exact ⟨rfl, hb1⟩
    · have h1' : (3000 : Int) < (s.size : Int) := by omega
      clear hc
      go_enter Try.func3, Try.ntmps3
      go_wp2_with (go_at_call 8; refine (alive8_any _).mono ?_; rintro e w1 ⟨rfl, hb1⟩)
      go_ret
      exact ⟨rfl, hb1⟩
end Go.Proofs.Ytfkdkhcpmoohiaa
