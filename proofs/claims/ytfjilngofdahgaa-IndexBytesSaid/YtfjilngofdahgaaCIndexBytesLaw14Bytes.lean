/- chapter 14: IndexBytes, walked. -/
import Derived.Test.YtfjilngofdahgaaCIndexBytesIxLoad
import Derived.Test.YtfjilngofdahgaaCIndexBytesRef2
import Derived.Deep.DeepCutAuto
import Derived.Deep.CutBlock

namespace Go.Proofs.Ytfjilngofdahgaa
open Go.RowKit
set_option maxHeartbeats 4000000
set_option maxRecDepth 100000
set_option linter.unusedVariables false

theorem load_cases (bs : List UInt8) : (∃ s, loadL bs = (some s, 0) ∧ saveX s = (bs, 0)) ∨ (∃ E, loadL bs = (none, E) ∧ (E = 5 ∨ E = 7 ∨ E = 6)) := by
  by_cases h0 : (openL bs).2 = 0
  · cases hr : readX (openL bs).1 with
    | none => exact .inr ⟨6, load_none h0 hr, .inr (.inr rfl)⟩
    | some s =>
      by_cases hs : saveX s = (bs, 0)
      · exact .inl ⟨s, load_some h0 hr hs, hs⟩
      · exact .inr ⟨6, load_not h0 hr hs, .inr (.inr rfl)⟩
  · refine .inr ⟨_, load_shut h0, ?_⟩
    rcases openL_parts bs with h | h | ⟨r, h, _⟩
    · rw [h]; exact .inl rfl
    · rw [h]; exact .inr (.inl rfl)
    · rw [h] at h0; exact absurd rfl h0

theorem indexBytes_any (b : ByteArray) (sld : Bool) (room most : Int) (W : World) (hb : b.size ≤ 9223372036854775807) :
    Calls Try.prog 6 #[.string b, .bool sld, .int .i64 room, .int .i64 most] W fun e w' => e = .returned (.bool true) ∧ Below W.heap.size W w' := by
  by_cases g1 : 4000 < b.size
  · have g1' : (4000 : Int) < (b.size : Int) := by omega
    go_enter Try.func6, Try.ntmps6
    go_wp2_with fail
    refine (alive14_any _).mono ?_
    rintro e w1 ⟨rfl, hb1⟩
    go_wp2_with fail
    go_ret
    exact ⟨rfl, hb1⟩
  have g1' : ¬ ((4000 : Int) < (b.size : Int)) := by omega
  go_enter Try.func6, Try.ntmps6
  go_upto_if 17 with fail
  go_cut [0] (fun s0 wx => ∃ b2 : ByteArray, s0 = .string b2 ∧ b2.size ≤ 5000 ∧ Hid (Below W.heap.size W wx))
  case first =>
    cases sld with
    | true =>
      have hse := refSeal_any b W (by omega)
      obtain ⟨b2, hb2⟩ : ∃ b2 : ByteArray, (⟨(sum4 b.data.toList ++ b.data.toList).toArray⟩ : ByteArray) = b2 := ⟨_, rfl⟩
      have hbs : b2.size ≤ 5000 := by rw [← hb2]; simp only [ByteArray.size, List.size_toArray, List.length_append, sum4_length]; have := size_list b; omega
      rw [hb2] at hse
      have Hse := Lib.hid hse
      clear hse hb2
      go_wp2_with fail
      refine Hse.out.mono ?_
      rintro e w1 ⟨rfl, hb1⟩
      have B1 := Lib.hid hb1
      clear hb1
      go_wp2_with fail
      go_meet
      exact ⟨b2, rfl, hbs, B1⟩
    | false =>
      go_wp2_with fail
      go_meet
      exact ⟨b, rfl, by omega, Lib.hid (Below.refl _ _)⟩
  case rest =>
    obtain ⟨b2, rfl, hbs, B1⟩ := hcut
    rename World => w1
    clear g1 g1' hb
    have hld := loadX_any b2 room most w1 (by omega)
    obtain ⟨bs, hbl⟩ : ∃ bs, b2.data.toList = bs := ⟨_, rfl⟩
    rw [hbl] at hld
    rcases load_cases bs with ⟨s, h1, h2⟩ | ⟨E, h1, h2⟩
    · rw [h1] at hld
      dsimp only at hld
      have Hld := Lib.hid hld; have H2 := Lib.hid h2; have Hbl := Lib.hid hbl
      clear hld h1 h2 hbl
      go_wp2_with fail
      refine Hld.out.mono ?_
      rintro e w2 ⟨p, rfl, hb2, _, hp⟩
      obtain ⟨hws, g, S, rfl, hi2, hs2⟩ := hp s rfl
      have B2 := Lib.hid (B1.out.trans (hb2.mono B1.out.size))
      have hsv := saveX_any S g _ _ s w2 hi2 hws
      rw [H2.out] at hsv
      dsimp only at hsv
      have e2 : (⟨bs.toArray⟩ : ByteArray) = b2 := by rw [← Hbl.out]
      rw [e2] at hsv
      have Hsv := Lib.hid hsv
      have dq : (b2.toList == b2.toList) = true := beq_self_eq_true _
      clear hsv hi2 hs2 hp hb2 e2
      go_wp2_with fail
      refine Hsv.out.mono ?_
      rintro e w3 ⟨rfl, hb3⟩
      have B3 := Lib.hid (B2.out.trans (hb3.mono B2.out.size))
      clear hb3
      go_wp2_with fail
      refine (alive14_any _).mono ?_
      rintro e w4 ⟨rfl, hb4⟩
      have B4 := Lib.hid (B3.out.trans (hb4.mono B3.out.size))
      clear hb4
      go_wp2_with fail
      go_ret
      exact ⟨rfl, B4.out⟩
    · rw [h1] at hld
      dsimp only at hld
      have dE : (E != 0) = true := by rcases h2 with rfl | rfl | rfl <;> decide
      have Hld := Lib.hid hld
      clear hld h1 hbl
      rcases h2 with rfl | rfl | rfl
      all_goals
        clear dE
        go_wp2_with fail
        refine Hld.out.mono ?_
        rintro e w2 ⟨p, rfl, hb2, hp, _⟩
        obtain rfl := hp trivial
        have B2 := Lib.hid (B1.out.trans (hb2.mono B1.out.size))
        clear hb2 hp
        go_wp2_with fail
        refine (alive14_any _).mono ?_
        rintro e w4 ⟨rfl, hb4⟩
        have B4 := Lib.hid (B2.out.trans (hb4.mono B2.out.size))
        clear hb4
        go_wp2_with fail
        go_ret
        exact ⟨rfl, B4.out⟩
end Go.Proofs.Ytfjilngofdahgaa
