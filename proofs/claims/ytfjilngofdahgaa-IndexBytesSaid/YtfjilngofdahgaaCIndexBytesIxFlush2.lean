/- chapter 14: Flush, walked. -/
import Derived.Test.YtfjilngofdahgaaJIndexBytes4
import Derived.BigRegion
import Derived.RegionTactic

namespace Go.Proofs.Ytfjilngofdahgaa
open Go.RowKit
set_option maxHeartbeats 4000000
set_option maxRecDepth 100000
set_option linter.unusedVariables false

theorem drop_sum (L : List Nat) (k : Nat) (x : Nat) (h : L[k]? = some x) : (L.drop k).sum = x + (L.drop (k + 1)).sum := by
  obtain ⟨hk, hx⟩ := List.getElem?_eq_some_iff.1 h
  rw [List.drop_eq_getElem_cons hk, List.sum_cons, hx]
theorem head_sum (r : List Lv) (t : Tb) : ((headX r t).map List.length).sum = (r.map List.length).sum + 1 := by
  cases r with
  | nil => rfl
  | cons l r => unfold headX; simp; omega

theorem wp_worldX {P : Program} {c : Code} {Q : Exit → Act → World → Prop} {a : Act} {w W : World} {B : Nat} (h : ∀ X, Below B W X → Code.wp P c Q a X) (hb : Below B W w) : Code.wp P c Q a w := h w hb

theorem flushX_any (S : Nat → Prop) (g : Nat) (room most : Int) (s : Tb × List Lv) (w : World) (h : IxIs w S g room most s) (hw : wX s ≤ 800000) (hm : 2 ≤ most) :
    Calls Try.prog 16 #[.pointer (some ⟨g, 0, none⟩)] w fun e w' => e = .returned (.bool (decide (s.1.length ≠ 0))) ∧ IxStep S g room most w w' (flushX most s) := by
  obtain ⟨mem, lv⟩ := s
  have hmem := memX_any S g room most (mem, lv) w h (by omega)
  rw [wX_eq] at hw
  dsimp only at hw hmem ⊢
  by_cases h0 : mem.length = 0
  · have hfl : flushX most (mem, lv) = (mem, lv) := by unfold flushX; rw [if_pos h0]
    have e0 : ((mem.length : Int) == 0) = true := by rw [beq_iff_eq]; omega
    have e1 : decide (mem.length ≠ 0) = false := decide_eq_false (by omega)
    rw [hfl, e1]
    have H := Lib.hid h; have Hm := Lib.hid hmem
    clear h hmem hfl h0 e1
    go_enter Try.func16, Try.ntmps16
    go_wp2_with fail
    refine Hm.out.mono ?_
    rintro e w1 ⟨rfl, rfl⟩
    go_wp2_with fail
    go_ret
    exact ⟨rfl, IxStep.refl H.out⟩
  · have hfl : flushX most (mem, lv) = ([], carryX most (putX lv 0 mem) none) := by unfold flushX; rw [if_neg h0]
    have e0 : ((mem.length : Int) == 0) = false := by rw [beq_eq_false_iff_ne]; omega
    have e1 : decide (mem.length ≠ 0) = true := decide_eq_true h0
    rw [hfl, e1]
    obtain ⟨T, r, v, vs, hx⟩ := id h
    have k2 := hx.blk.cell 2
    simp at k2
    have hall := all_any 0 T r mem w hx.tab (by omega)
    have hput := fun (u : Value) (w' : World) (hb : Below w.heap.size w w') (hu : w'.ownsRow w.heap.size 27 3 u mem.length (enVs mem)) => putX_any S g room most mem lv 0 u mem w' (h.below hb) (by omega) (Nat.zero_le _) (own_mono hu (Nat.zero_le _)) (fun b hb2 hs => by have := hx.lt b hs; have := (hu.lt b hb2).1; omega)
    have Hm := Lib.hid hmem; have Hall := Lib.hid hall; have Hput := Lib.hid hput; have HS := Lib.hid hx.lt
    clear h hmem hfl h0 e1 hx hall hput
    go_enter Try.func16, Try.ntmps16
    go_wp2_with fail
    refine Hm.out.mono ?_
    rintro e w1 ⟨rfl, rfl⟩
    go_wp2_with fail
    refine Hall.out.mono ?_
    rintro e w2 ⟨u, rfl, hown, hb2⟩
    have hp := Hput.out u w2 hb2 hown
    have HO := Lib.hid hown; have B2 := Lib.hid hb2
    clear hown hb2 k2
    go_wp2_with fail
    refine hp.mono ?_
    rintro e w3 ⟨rfl, S1, hi3, hc3, hs3⟩
    clear hp
    have C3 : Hid (Chg S w w3) := Lib.hid ((Chg.of_below B2.out).trans hc3 (fun k _ h => h))
    have S3 : Hid (∀ b, S1 b → S b ∨ w.heap.size ≤ b) := Lib.hid (fun b hb => by
      rcases hs3 b hb with h | h | h
      · exact .inl h
      · exact .inr (HO.out.lt b h).1
      · exact .inr (Nat.le_trans B2.out.size h))
    obtain ⟨T3, r3, v3, vs3, hx3⟩ := hi3
    have X3 := Lib.hid hx3
    clear hc3 hs3 hx3
    go_wp2_with fail
    refine (new_any w3).mono ?_
    rintro e w4 ⟨rfl, ht4, hb4⟩
    have hx4 := X3.out.below hb4
    have hnew := hx4.newMem (ht4 0) (fun hs => by have := X3.out.lt _ hs; omega)
    obtain ⟨hn1, hn2⟩ := hnew
    have q2 := hx4.blk.cell 2; have q2f := hx4.blk.free 2; have qlt := hx4.blk.lt
    simp at q2
    have N1 := Lib.hid hn1
    have C5 : Hid (Chg S w (w4.setCell ⟨g, 2, none⟩ (.pointer (some ⟨w3.heap.size, 0, none⟩)))) := Lib.hid ((C3.out.under hb4 C3.out.size).trans hn2 (fun k hk hs => by
      rcases S3.out k hs with h | h
      · exact h
      · omega))
    have S5 : Hid (∀ b, (S1 b ∨ b = w3.heap.size) → S b ∨ w.heap.size ≤ b) := Lib.hid (fun b hb => by
      rcases hb with hb | rfl
      · exact S3.out b hb
      · exact .inr C3.out.size)
    clear hx4 hn1 hn2 ht4 hb4
    go_wp2_with fail
    obtain ⟨w5, hw5⟩ : ∃ w5, w4.setCell ⟨g, 2, none⟩ (.pointer (some ⟨w3.heap.size, 0, none⟩)) = w5 := ⟨_, rfl⟩
    rw [hw5] at N1 C5
    (try rw [hw5])
    clear hw5 q2 q2f qlt
    have hpw := put_w lv 0 mem
    have hpw2 : wLs (putX lv 0 mem) ≤ 800002 := by omega
    go_loopw [3] (fun i wr => ∃ (k : Nat) (S2 : Nat → Prop) (lv2 : List Lv), i = .int .i64 (k : Int) ∧ IxIs wr S2 g room most ([], lv2) ∧ Chg S w wr ∧ (∀ b, S2 b → S b ∨ w.heap.size ≤ b) ∧ k ≤ lv2.length ∧ wLs lv2 ≤ 800002 ∧ carryX most (putX lv 0 mem) none = lv2.take k ++ carryX most (lv2.drop k) none) (fun i wr => 2 * ((lens g wr).drop (intOf i).toNat).sum + ((lens g wr).length - (intOf i).toNat))
    case atStart => exact ⟨0, _, putX lv 0 mem, rfl, ⟨_, _, _, _, N1.out⟩, C5.out, S5.out, Nat.zero_le _, hpw2, by simp⟩
    case round =>
      obtain ⟨k, S2, lv2, rfl, ⟨T2, r2, v2, vs2, hx⟩, hc, hs, hk, hwl, heq⟩ := hrel
      have hk0 : (0 : Int) ≤ (k : Int) := by omega
      have hfl2 := flats_len lv2
      have hl9 : lv2.length ≤ 800002 := by omega
      have hlens := lens_at hx
      have k3 := hx.blk.cell 3; have k1 := hx.blk.cell 1
      simp at k3 k1
      have hgl := hx.blk.lt
      have X := Lib.hid hx; have C := Lib.hid hc; have SS := Lib.hid hs; have EQ := Lib.hid heq; have LE := Lib.hid hlens
      clear hx hc hs heq hlens hfl2
      by_cases hlt : k < lv2.length
      · have hk1 : (k : Int) < (lv2.length : Int) := by omega
        obtain ⟨o, cap, rfl, hcap⟩ := own_row X.out.row (by dsimp only; omega)
        dsimp only at X k3 hcap
        obtain ⟨ad, vk, hA, had, hvk, hcv⟩ := (SlR.own X.out.row).get hlt
        injection hA with hA
        subst hA
        obtain ⟨l, hl⟩ : ∃ l, lv2[k]? = some l := ⟨_, List.getElem?_eq_getElem hlt⟩
        obtain ⟨hL, hsk⟩ := X.out.lev k vk l hvk hl
        obtain ⟨Ak, ck, rfl, hnk⟩ := (by obtain ⟨us, hou, _⟩ := hL; exact own_slice hou : ∃ A c, vk = .slice A l.length c ∧ l.length ≤ c)
        have hwl2 := level_few hl
        have hl2 := flat_len l
        have hll : l.length ≤ 900000 := by omega
        have had0 : (⟨o, 0, none⟩ : Addr).add k = ⟨o, k, none⟩ := by rw [Addr.add_lit, Nat.zero_add]
        rw [had0] at hcv
        have ho1 : o < wr.heap.size := (X.out.row.lt o rfl).2
        by_cases hf : most ≤ (l.length : Int)
        · have df : decide (most ≤ (l.length : Int)) = true := decide_eq_true hf
          have hst := carry_step most hm hl hf
          have hpf := put_full most hm hl hf
          have Hst := Lib.hid hst; have Hvk := Lib.hid hvk; have Hl := Lib.hid hl; have HL := Lib.hid hL
          clear hst hvk hl hL hsk had
          go_wp2_with fail
          go_quiet (fail)
          generalize hwq : wr.drewN nq = wq
          have hbq : Below wr.heap.size wr wq := by rw [← hwq]; exact below_drewN (Below.refl _ _) _
          clear hwq
          have k3q := (hbq.cell (p := ⟨g, 3, none⟩) hgl).trans k3
          have hcvq := (hbq.cell (p := ⟨o, k, none⟩) ho1).trans hcv
          have hj := joinX_any S2 r2 _ l wq (HL.out.below hbq) (fun b hb => Nat.lt_of_lt_of_le (X.out.lt b hb) hbq.size) (by omega)
          have HJ := Lib.hid hj; have BQ := Lib.hid hbq
          clear hj hbq k3 k1 hcv
          go_wp2_with fail
          refine HJ.out.mono ?_
          rintro e w6 ⟨u6, rfl, hown6, hb6⟩
          have B6 := Lib.hid (BQ.out.trans (hb6.mono BQ.out.size))
          have hx6 := X.out.below B6.out
          have hbq := BQ.out.size
          have k36 := hx6.blk.cell 3
          have f6 := own_free hx6.row k
          have hcv6 := (hb6.cell (p := ⟨o, k, none⟩) (by show o < _; omega)).trans hcvq
          simp at k36
          have hlev := hx6.level Hvk.out (Chg.refl _ _) S2 (fun b hb => hb) hx6.lt (.slice none 0 0) [] (LvIs.none _ _ _) (fun b hb => by cases hb) (fun b hb => by cases hb)
          have hu7 : (w6.setCell ⟨o, k, none⟩ (.slice none 0 0)).ownsRow 0 27 3 u6 (joinX l).length (enVs (joinX l)) := own_mono (own_far (a := ⟨o, k, none⟩) hown6 (fun e => own_type hown6 hx6.row (by decide) e rfl) _) (Nat.zero_le _)
          have hun : ∀ b, u6.ownBlock = some b → ¬ S2 b := fun b hb hs => by have := X.out.lt b hs; have := (hown6.lt b hb).1; omega
          obtain ⟨hl1, hl2⟩ := hlev
          have hsw := set_w Hl.out
          have hp := putX_any S2 g room most [] (lv2.set k []) (k + 1) u6 (joinX l) _ ⟨_, _, _, _, hl1⟩ (by omega) (by rw [List.length_set]; omega) hu7 hun
          rw [show ((k + 1 : Nat) : Int) = (k : Int) + 1 from by omega] at hp
          have C7 : Hid (Chg S w (w6.setCell ⟨o, k, none⟩ (.slice none 0 0))) := Lib.hid ((C.out.under B6.out C.out.size).trans hl2 (fun b hb hs => by
            rcases SS.out b hs with h | h
            · exact h
            · omega))
          have HP := Lib.hid hp; have HO6 := Lib.hid hown6
          clear hp hl1 hl2 hu7 hun hx6 hown6 hb6 k3q hcvq
          go_wp2_with fail
          refine HP.out.mono ?_
          rintro e w8 ⟨rfl, S8, hi8, hc8, hs8⟩
          have C8 : Hid (Chg S w w8) := Lib.hid (C7.out.trans hc8 (fun b hb hs => by
            rcases SS.out b hs with h | h
            · exact h
            · omega))
          have S8' : Hid (∀ b, S8 b → S b ∨ w.heap.size ≤ b) := Lib.hid (fun b hb => by
            rcases hs8 b hb with h | h | h
            · exact SS.out b h
            · have := (HO6.out.lt b h).1; have := C.out.size; exact .inr (by omega)
            · have := C7.out.size; exact .inr (by omega))
          obtain ⟨T8, r8, v8, vs8, hx8⟩ := hi8
          have X8 := Lib.hid hx8
          have hple : k + 1 ≤ (putX (lv2.set k []) (k + 1) (joinX l)).length := by
            have h := congrArg List.length (put_take (t := joinX l) hlt).1
            rw [List.length_take, List.length_append, List.length_take] at h
            simp only [List.length_cons, List.length_nil] at h
            omega
          have Hpl := Lib.hid hple
          clear hc8 hs8 hx8 k36 f6 hcv6 hple
          go_wp2_with fail
          go_roundw
          case rel => exact ⟨k + 1, S8, putX (lv2.set k []) (k + 1) (joinX l), by go_num, ⟨_, _, _, _, X8.out⟩, C8.out, S8'.out, Hpl.out, by omega, by rw [EQ.out]; exact Hst.out⟩
          case measure =>
            have h1 := lens_at X8.out
            have h2 := LE.out
            have h3 := drop_sum (lv2.map List.length) k l.length (by rw [List.getElem?_map, Hl.out]; rfl)
            have h4 := head_sum (lv2.drop (k + 1)) (joinX l)
            have h5 := (put_take (t := joinX l) hlt).2
            have h6 : ((putX (lv2.set k []) (k + 1) (joinX l)).map List.length).drop (k + 1) = (headX (lv2.drop (k + 1)) (joinX l)).map List.length := by rw [← List.map_drop, h5]
            have h7 : (putX (lv2.set k []) (k + 1) (joinX l)).length ≤ lv2.length + 1 := by unfold putX; split <;> simp
            have e1 : (intOf (Value.int IntKind.i64 ((k : Int) + 1))).toNat = k + 1 := by simp [intOf] <;> omega
            have e2 : (intOf (Value.int IntKind.i64 (k : Int))).toNat = k := by simp [intOf]
            rw [h1, h2, e1, e2, h6, h4, List.map_drop, h3]
            simp only [List.length_map]
            omega
        · have df : decide (most ≤ (l.length : Int)) = false := decide_eq_false hf
          have hst := carry_skip most hl hf
          have Hst := Lib.hid hst; have Hl := Lib.hid hl
          clear hst hvk hl hL hsk had
          go_wp2_with fail
          go_quiet (fail)
          generalize hwq : wr.drewN nq = wq
          have hbq : Below wr.heap.size wr wq := by rw [← hwq]; exact below_drewN (Below.refl _ _) _
          clear hwq
          have BQ := Lib.hid hbq
          clear hbq k3 k1 hcv
          go_wp2_with fail
          go_roundw
          case rel => exact ⟨k + 1, S2, lv2, by go_num, ⟨_, _, _, _, X.out.below BQ.out⟩, C.out.under BQ.out C.out.size, SS.out, by omega, hwl, by rw [EQ.out]; exact Hst.out⟩
          case measure =>
            have h1 := lens_at (X.out.below BQ.out)
            have h2 := LE.out
            have h3 := drop_sum (lv2.map List.length) k l.length (by rw [List.getElem?_map, Hl.out]; rfl)
            have e1 : (intOf (Value.int IntKind.i64 ((k : Int) + 1))).toNat = k + 1 := by simp [intOf] <;> omega
            have e2 : (intOf (Value.int IntKind.i64 (k : Int))).toNat = k := by simp [intOf]
            rw [h1, h2, e1, e2, h3]
            simp only [List.length_map]
            omega
      · obtain rfl : k = lv2.length := by omega
        have dkk : decide (lv2.length < lv2.length) = false := by simp
        have heq := EQ.out
        rw [List.take_of_length_le (Nat.le_refl _), List.drop_of_length_le (Nat.le_refl _)] at heq
        have e9 : carryX most ([] : List Lv) none = [] := rfl
        rw [e9, List.append_nil] at heq
        have HQ := Lib.hid heq
        obtain ⟨Av, cv, rfl, hnv⟩ := own_slice X.out.row
        dsimp only at X k3
        clear heq e9 hlt
        go_wp2_with fail
        go_ret
        exact ⟨rfl, S2, by rw [HQ.out]; exact ⟨_, _, _, _, X.out⟩, C.out, SS.out⟩
end Go.Proofs.Ytfjilngofdahgaa
