/- chapter 14: Levels. -/
import Derived.Test.YtfjilngofdahgaaJIndexBytes4
import Derived.Test.YtfjilngofdahgaaCIndexBytesIxZero
import Derived.Lib.AppendZeros

namespace Go.Proofs.Ytfjilngofdahgaa
open Go.RowKit
set_option maxHeartbeats 2000000
set_option maxRecDepth 100000
set_option linter.unusedVariables false

theorem levelsX_any (S : Nat → Prop) (g : Nat) (room most : Int) (s : Tb × List Lv) (w : World) (h : IxIs w S g room most s) (hw : wX s ≤ 900000) :
    Calls Try.prog 12 #[.pointer (some ⟨g, 0, none⟩)] w fun e w' => ∃ u, e = .returned u ∧ w'.ownsRow w.heap.size 3 1 u (cutsX s.2).length (intVs (cutsX s.2)) ∧ Below w.heap.size w w' := by
  obtain ⟨i0, hi0, hz0, hz1, hz2⟩ := info_parts info_int
  obtain ⟨mem, lv⟩ := s
  obtain ⟨T, r, v, vs, h⟩ := h
  have hfl := flats_len lv
  rw [wX_eq] at hw
  dsimp only at hw
  have hlv9 : lv.length ≤ 900000 := by omega
  have hK : ∀ wx, Below w.heap.size w wx → IxAt wx S g room most (mem, lv) T r v vs := fun wx hb => h.below hb
  obtain ⟨Av, cv, rfl, hnv⟩ := own_slice h.row
  have k3 := h.blk.cell 3
  simp at k3
  have K := Lib.hid hK; have H := Lib.hid h
  clear h hK hfl
  go_enter Try.func12, Try.ntmps12
  go_wp2_with fail
  go_loopw [3, 13] (fun o i wr => ∃ (k : Nat) (u : Value), u = o ∧ k ≤ lv.length ∧ i = .int .i64 (k : Int) ∧ wr.ownsRow w.heap.size 3 1 u (cutsX (lv.take k)).length (intVs (cutsX (lv.take k))) ∧ Below w.heap.size w wr) (fun _ i _ => lv.length - (intOf i).toNat)
  case atStart => exact ⟨0, _, rfl, Nat.zero_le _, rfl, World.ownsRow_nil _ _ _ _, Below.refl _ _⟩
  case round =>
    obtain ⟨k, u, rfl, hk, rfl, hown, hb⟩ := hrel
    have hk0 : (0 : Int) ≤ (k : Int) := by omega
    have hfk : (cutsX (lv.take k)).length ≤ k := Nat.le_trans (cuts_le _) (by rw [List.length_take]; omega)
    by_cases hlt : k < lv.length
    · obtain ⟨ad, v', rfl, had, hv', hcv⟩ := (SlR.own (K.out _ hb).row).get hlt
      have hk1 : (k : Int) < (lv.length : Int) := by omega
      obtain ⟨l, hl⟩ : ∃ l, lv[k]? = some l := ⟨_, List.getElem?_eq_getElem hlt⟩
      obtain ⟨⟨us, hou, _⟩, _⟩ := H.out.lev k v' l hv' hl
      obtain ⟨Al, cl, rfl, hnl⟩ := own_slice hou
      have hl9 : l.length ≤ 900000 := by have h1 := level_few hl; have h2 := flat_len l; omega
      have hsn := cuts_next hl
      have hbs := hb.size
      have Hsn := Lib.hid hsn; have Hown := Lib.hid hown; have Hb := Lib.hid hb
      generalize cutsX (lv.take k) = F at hfk Hown Hsn
      clear hsn hown hb hou hv' hl
      by_cases h0 : 0 < l.length
      · have e0 : decide ((0 : Int) < (l.length : Int)) = true := decide_eq_true (by omega)
        have Hsn := Lib.hid (Hsn.out.trans (by rw [if_pos h0]))
        have hz := fun ty => run_append_zerosI w.heap.size u F.length (k - F.length) F wr ty Hown.out (by omega) hbs
        have hkd : ((k - F.length : Nat) : Int) = (k : Int) - (F.length : Int) := by omega
        have hwk : IntKind.i64.wrap ((k : Int) - (F.length : Int)) = (k : Int) - (F.length : Int) := IntWalk.i64_in _ (by omega)
        rw [hkd] at hz
        obtain ⟨Au, cu, rfl, hnu⟩ := own_slice Hown.out
        obtain ⟨u2, w2, hrun, hown2, hg2, hat2⟩ := hz 29
        have hb2 : Below w.heap.size w w2 := Hb.out.grown hg2 hbs (fun q hq => (Hown.out.lt q hq).1)
        have Hown2 := Lib.hid hown2; have Hb2 := Lib.hid hb2
        have hb2s := hb2.size
        clear hz hown2 hg2 hat2 hb2
        go_wp2_with (first
          | (at_builtin; refine Lib.wpList_append_run _ rfl (.tmp 21) (.tmp 25) _ _ rfl _ _ rfl rfl u2 w2 hrun ?_)
          | (at_builtin; refine wpList_append_lies _ rfl (.tmp 27) (.tmp 30) _ rfl w.heap.size 3 i0 _ 1 8 Try.underlying29 hi0 hz0 hz1 hz2 rfl (by omega) u2 (F.length + (k - F.length)) (intVs (F ++ List.replicate (k - F.length) 0)) rfl (Hown2.out.alloc _) ⟨w2.heap.size, 0, none⟩ 1 1 [.int .i64 (l.length : Int)] rfl rfl (World.news_of_block (cs := #[.int .i64 (l.length : Int)]) (heap_alloc_new w2 _)) (by simp [Value.oneCell']) (by omega) (by simp only [maxLen]; omega) (by omega) (by simp <;> omega) (w2.heap.size + 1) (by simp) ?_; intro g3 cp w3 hown3 hgrow hat3 hlt3))
        have hb3 : Below w.heap.size w w3 := (Hb2.out.alloc hb2s _).grown hgrow (by simp; omega) (fun q hq => (Hown2.out.lt q hq).1)
        have H3 := Lib.hid hown3
        have HB3 := Lib.hid hb3
        clear hown3 hgrow hat3 hb3
        go_roundw
        case rel =>
          refine ⟨k + 1, _, rfl, by omega, by go_num, ?_, HB3.out⟩
          have h3 := H3.out
          rw [Hsn.out]
          have e1 : (F ++ List.replicate (k - F.length) 0 ++ [(l.length : Int)]).length = F.length + (k - F.length) + 1 := by simp; omega
          have e2 : intVs (F ++ List.replicate (k - F.length) 0 ++ [(l.length : Int)]) = intVs (F ++ List.replicate (k - F.length) 0) ++ [.int .i64 (l.length : Int)] := by rw [intVs_app]; rfl
          have e3 : F.length + (k - F.length) + 1 = k + 1 := by omega
          rw [e1, e2, e3]
          rw [e3] at h3
          exact h3
        case measure => simp [intOf]; omega
      · have e0 : decide ((0 : Int) < (l.length : Int)) = false := decide_eq_false (by omega)
        have Hsn := Lib.hid (Hsn.out.trans (by rw [if_neg h0]))
        go_wp2_with fail
        go_roundw
        case rel =>
          refine ⟨k + 1, u, rfl, by omega, by go_num, ?_, Hb.out⟩
          rw [Hsn.out]
          exact Hown.out
        case measure => simp [intOf]; omega
    · obtain rfl : k = lv.length := by omega
      have dkk : decide (lv.length < lv.length) = false := by simp
      rw [List.take_of_length_le (Nat.le_refl _)] at hown
      have Hown := Lib.hid hown; have Hb := Lib.hid hb
      clear hown hb hlt hfk
      go_wp2_with fail
      go_ret
      exact ⟨u, rfl, Hown.out, Hb.out⟩
end Go.Proofs.Ytfjilngofdahgaa
