/- chapter 14: IndexSame, walked. -/
import Derived.Test.YtfjilngofdahgaaIxSame
import Derived.Test.YtfjilngofdahgaaTabEql
import Derived.Test.YtfjilngofdahgaaEnBook
import Derived.Test.YtfjilngofdahgaaBookInts
import Derived.IntWalk
import Derived.Deep.RegionHeld3
import Derived.Deep.DeepCutAuto
import Derived.Deep.CutBlock
namespace Go.Proofs.Ytfjilngofdahgaa
open Go.RowKit
set_option maxHeartbeats 4000000
set_option maxRecDepth 100000
set_option linter.unusedVariables false

theorem run_neq_en (w : World) (x y z u v t : Int) : (binOp .neq 27 (.agg #[.int .i64 x, .int .i64 y, .int .i64 z]) (.agg #[.int .i64 u, .int .i64 v, .int .i64 t])).run Try.prog w = .ok (.bool (!((x == u) && ((y == v) && (z == t))))) w := by
  go_simp
  split
  · split
    · split <;> simp_all
    · simp_all
  · simp_all
theorem indexSame_any (A1 : Option Addr) (n1 c1 : Nat) (ps : List En) (A2 : Option Addr) (n2 c2 : Nat) (zs : List Int) (hash lo hi : Int) (W : World) (h1 : SlR W W.heap.size 3 A1 n1 (enVs ps)) (h2 : SlR W W.heap.size 1 A2 n2 (intVs zs)) (hm1 : n1 ≤ 9223372036854775807) (hm2 : n2 ≤ 9223372036854775807) (wz : ∀ z ∈ zs, (Lit.int .i64 z).wf = true) :
    Calls Try.prog 4 #[.slice A1 n1 c1, .slice A2 n2 c2, .int .i64 hash, .int .i64 lo, .int .i64 hi] W fun e w' => e = .returned (.bool true) ∧ Below W.heap.size W w' := by
  by_cases g1 : 60 < n1
  · clear h1 h2
    go_enter Try.func4, Try.ntmps4
    go_wp2_with fail
    refine (alive14_any _).mono ?_
    rintro e w1 ⟨rfl, hb1⟩
    go_wp2_with fail
    go_ret
    exact ⟨rfl, hb1⟩
  by_cases g2 : 6 < n2
  · clear h1 h2
    go_enter Try.func4, Try.ntmps4
    go_wp2_with fail
    refine (alive14_any _).mono ?_
    rintro e w1 ⟨rfl, hb1⟩
    go_wp2_with fail
    go_ret
    exact ⟨rfl, hb1⟩
  have g1 := Nat.not_lt.1 g1
  have g2 := Nat.not_lt.1 g2
  have hl1 : ps.length = n1 := by have := h1.len; rw [enVs_length] at this; omega
  have hle : (addsE [] ps).length ≤ 60 := by have := (adds_le [] ps).2; simp only [List.length_nil, Nat.zero_add] at this; omega
  have hso : SortedE (addsE [] ps) := adds_sorted List.Pairwise.nil ps
  have H1 := Lib.hid h1; have H2 := Lib.hid h2; have Hso := Lib.hid hso; have Hl1 := Lib.hid hl1
  clear h1 h2 hl1 hso
  go_enter Try.func4, Try.ntmps4
  go_wp2_with fail
  refine (new_any _).mono ?_
  rintro e w2 ⟨rfl, hn2, hb2⟩
  have hT0 := hn2 W.heap.size
  have B2 := Lib.hid hb2
  have T2 := Lib.hid hT0
  have hTl : W.heap.size < w2.heap.size := by obtain ⟨v, k1, _⟩ := hT0; exact k1.lt
  clear hn2 hb2 hT0
  go_wp2_with fail
  have hap : 0 < n1 → ∀ ad, A1 = some ad → ad.block ≠ W.heap.size ∧ some ad.block ≠ (none : Option Nat) := by
    rintro h0 ad rfl
    obtain ⟨ad', e, hlt', _⟩ := H1.out.cells h0
    injection e with e
    subst e
    exact ⟨by omega, by simp⟩
  refine (add_any W.heap.size W.heap.size none [] ps A1 n1 c1 w2 T2.out List.Pairwise.nil ((H1.out.below B2.out).more B2.out.size) hap B2.out.size (by simp; omega)).mono ?_
  rintro e w3 ⟨rfl, r, hi3, hs3⟩
  have T3 := Lib.hid hi3
  have B3 : Hid (Below W.heap.size W w3) := Lib.hid (((Chg.of_below B2.out).trans hs3.chg (S := fun _ => False) (fun k hk hT => by rcases hT with h | h; omega; cases h)).below (fun k hk => hk.elim) (Nat.le_refl _))
  have hTl3 : W.heap.size < w3.heap.size := by obtain ⟨v, k1, _⟩ := hi3; exact k1.lt
  obtain ⟨L, hL⟩ : ∃ L, addsE [] ps = L := ⟨_, rfl⟩
  rw [hL] at T3 Hso hle
  simp only [List.length_nil]
  rw [hL]
  have HL0 := Lib.hid hL
  clear hi3 hs3 hap T2 hTl hL
  go_wp2_with fail
  go_loopw [12] (fun i wr => ∃ k : Nat, k ≤ n2 ∧ i = .int .i64 (k : Int) ∧ Below w3.heap.size w3 wr) (fun i _ => n2 - (intOf i).toNat)
  case atStart => exact ⟨0, Nat.zero_le _, rfl, Below.refl _ _⟩
  case round =>
    obtain ⟨k, hk, rfl, hb⟩ := hrel
    have Bk := Lib.hid hb
    clear hb
    by_cases hlt : k < n2
    · obtain ⟨ad, v, hA, had, hx, hc⟩ := ((H2.out.below (B3.out.trans (Bk.out.mono B3.out.size)))).get hlt
      obtain ⟨z, hz, hzv⟩ : ∃ z, zs[k]? = some z ∧ v = .int .i64 z := by
        rw [show (intVs zs)[k]? = (zs[k]?).map (fun z => Value.int .i64 z) from by unfold intVs; rw [List.getElem?_map]] at hx
        cases hzz : zs[k]? with
        | none => rw [hzz] at hx; cases hx
        | some z => rw [hzz] at hx; injection hx with hx; exact ⟨z, rfl, hx.symm⟩
      subst hzv hA
      have hlt' : (k : Int) < (n2 : Int) := by omega
      clear hx
      obtain ⟨rm, hrm⟩ : ∃ rm, rm = z >>> 3 := ⟨_, rfl⟩
      have hadl : (ad.add k).block < wr.heap.size := by rw [add_block]; exact Nat.lt_of_lt_of_le had (Nat.le_trans B3.out.size Bk.out.size)
      have hS := hc
      go_wp2_with fail
      go_region_held3 (fun wx => wx.cell? (ad.add k) = some (.int .i64 z)) (first | exact hS | go_keep) ((first
        | (go_at_call 9; refine (newX_any _ _ _).mono ?_; rintro e wx ⟨g, S, rfl, q1, q2, q3, q4⟩; have hS := (q3.cell (p := ad.add k) hadl).trans hS)))
      have hbx : Below wr.heap.size wr wx := below_undrew q3
      have hix : IxNew wr wx g (max z 1) (max (z / 8) 2) ([], []) := ⟨S, q2, hbx, fun b hb => q4 b hb⟩
      obtain ⟨ro, hro⟩ : ∃ ro, max z 1 = ro := ⟨_, rfl⟩
      obtain ⟨mo, hmo⟩ : ∃ mo, max (z / 8) 2 = mo := ⟨_, rfl⟩
      have hmo2 : 2 ≤ mo := by omega
      rw [hro, hmo] at hix
      clear hro hmo q1 q2 q3 q4 hS hrm
      have BW := Lib.hid (B3.out.trans (Bk.out.mono B3.out.size))
      have hadd := hix.adds List.Pairwise.nil (by simp [wX]) hmo2 ps n1 c1 (by omega) A1 ((H1.out.below (BW.out.trans (hbx.mono BW.out.size))).more (by have := BW.out.size; have := hbx.size; omega)) (fun h0 ad' e => by
        obtain ⟨ad2, e2, hlt2, _⟩ := H1.out.cells h0
        rw [e] at e2; injection e2 with e2; subst e2
        exact Nat.lt_of_lt_of_le hlt2 BW.out.size)
      have hw5 := adds_w ro mo hmo2 ([], []) ps
      rw [Hl1.out] at hw5
      have hw0 : wX (([], []) : Tb × List Lv) = 0 := rfl
      have hall5 := adds_all0 ro mo ps
      obtain ⟨s5, hs5⟩ : ∃ s5, addsX ro mo ([], []) ps = s5 := ⟨_, rfl⟩
      rw [hs5] at hadd hw5 hall5
      have HA := Lib.hid hadd; have Hall := Lib.hid hall5
      clear hadd hs5 hall5 hix hbx
      go_wp2_with fail
      refine HA.out.mono ?_
      rintro e w5 ⟨rfl, hi5⟩
      have Hi5 := Lib.hid hi5
      have hc5 := (hi5.bel.cell (p := ad.add k) hadl).trans hc
      clear hi5
      rw [HL0.out] at Hall
      have KT : Hid (∀ wx, Below w3.heap.size w3 wx → TabIs wx W.heap.size W.heap.size r L) := Lib.hid (fun wx hb => T3.out.below hb)
      go_upto_if 59 with fail
      go_cut [13] (fun s13 wx => s13 = .pointer (some ⟨g, 0, none⟩) ∧ ∃ s6, Hid (IxNew wr wx g ro mo s6 ∧ allX s6.1 s6.2 = L ∧ wX s6 ≤ 500))
      case first =>
        by_cases hb1 : (bits .and .i64 z 1 == 1) = true
        · go_wp2_with fail
          refine (Hi5.out.flush (by omega) hmo2).mono ?_
          rintro e w6 ⟨⟨b, rfl⟩, hi6⟩
          have Hi6 := Lib.hid hi6
          have hfw := flush_w mo hmo2 s5
          clear hi6
          go_wp2_with fail
          go_meet
          exact ⟨rfl, flushX mo s5, Lib.hid ⟨Hi6.out, (flush_all mo s5).trans Hall.out, by omega⟩⟩
        · have hb1' : (bits .and .i64 z 1 == 1) = false := by simpa using hb1
          clear hb1
          go_wp2_with fail
          go_meet
          exact ⟨rfl, s5, Lib.hid ⟨Hi5.out, Hall.out, by omega⟩⟩
      case rest =>
        obtain ⟨rfl, s6, H6⟩ := hcut
        have hc6 := (H6.out.1.bel.cell (p := ad.add k) hadl).trans hc
        go_upto_if 67 with fail
        go_cut [13] (fun s13 wx => s13 = .pointer (some ⟨g, 0, none⟩) ∧ ∃ s7, Hid (IxNew wr wx g ro mo s7 ∧ allX s7.1 s7.2 = L ∧ wX s7 ≤ 600))
        case first =>
          by_cases hb1 : (bits .and .i64 z 2 == 2) = true
          · go_wp2_with fail
            refine (H6.out.1.merge (by have := H6.out.2.2; omega)).mono ?_
            rintro e w6 ⟨⟨b, rfl⟩, hi6⟩
            have Hi6 := Lib.hid hi6
            have hfw := merge_w s6
            clear hi6
            go_wp2_with fail
            go_meet
            exact ⟨rfl, mergeX s6, Lib.hid ⟨Hi6.out, (merge_all s6).trans H6.out.2.1, by have := H6.out.2.2; omega⟩⟩
          · have hb1' : (bits .and .i64 z 2 == 2) = false := by simpa using hb1
            clear hb1
            go_wp2_with fail
            go_meet
            exact ⟨rfl, s6, Lib.hid ⟨H6.out.1, H6.out.2.1, by have := H6.out.2.2; omega⟩⟩
        case rest =>
          obtain ⟨rfl, s7, H7⟩ := hcut
          have C7 : Hid (Below w3.heap.size w3 wc) := Lib.hid (Bk.out.trans (H7.out.1.bel.mono Bk.out.size))
          have hlast := H7.out.1.last H7.out.2.1 (by have := H7.out.2.2; omega) hash
          obtain ⟨p, hp⟩ : ∃ p, p = (lastE L hash).getD (0, 0, 0) := ⟨_, rfl⟩
          obtain ⟨b, hb⟩ : ∃ b, b = (lastE L hash).isSome := ⟨_, rfl⟩
          have hl2 := fun wx hx => last_any W.heap.size W.heap.size r L hash wx (KT.out wx hx) (by omega)
          rw [← hp, ← hb] at hlast
          simp only [← hp, ← hb] at hl2
          clear hp hb hc6
          obtain ⟨p0, p1, p2⟩ := p
          unfold enA at hlast hl2
          dsimp only at hlast hl2
          have HL := Lib.hid hlast; have HL2 := Lib.hid hl2
          clear hlast hl2
          go_wp2_with fail
          refine HL.out.mono ?_
          rintro e w8 ⟨rfl, hb8⟩
          have B8 := Lib.hid hb8
          clear hb8
          go_wp2_with fail
          obtain ⟨W9, hW9⟩ : ∃ V, w8.alloc (.cells #[.int .i64 p0, .int .i64 p1, .int .i64 p2] 27) = V := ⟨_, rfl⟩
          (try rw [hW9])
          have hE : BlkIs W9 w8.heap.size 27 #[.int .i64 p0, .int .i64 p1, .int .i64 p2] := by rw [← hW9]; exact BlkIs.new _ _ _
          have hb9 : Below w8.heap.size w8 W9 := by rw [← hW9]; exact (Below.refl _ _).alloc (Nat.le_refl _) _
          have B9 := Lib.hid (B8.out.trans (hb9.mono B8.out.size))
          have HE9 := Lib.hid hE
          clear hb9 hE hW9
          refine (HL2.out _ (C7.out.trans (B9.out.mono C7.out.size))).mono ?_
          rintro e w10 ⟨rfl, hb10⟩
          have B10 := Lib.hid (B9.out.trans (hb10.mono B9.out.size))
          have HE10 := Lib.hid (HE9.out.below hb10 HE9.out.lt)
          clear hb10
          go_wp2_with fail
          obtain ⟨WB, hWB⟩ : ∃ V, w10.alloc (.cells #[.int .i64 p0, .int .i64 p1, .int .i64 p2] 27) = V := ⟨_, rfl⟩
          (try rw [hWB])
          have hE : BlkIs WB w10.heap.size 27 #[.int .i64 p0, .int .i64 p1, .int .i64 p2] := by rw [← hWB]; exact BlkIs.new _ _ _
          have hb11 : Below w10.heap.size w10 WB := by rw [← hWB]; exact (Below.refl _ _).alloc (Nat.le_refl _) _
          have B11 := Lib.hid (B10.out.trans (hb11.mono B10.out.size))
          have E1 := Lib.hid (HE10.out.below hb11 HE10.out.lt)
          have E2 := Lib.hid hE
          clear hb11 hE hWB
          have I11 := Lib.hid (H7.out.1.under B11.out)
          have C11 := Lib.hid (C7.out.trans (B11.out.mono C7.out.size))
          have hrg := I11.out.range H7.out.2.1 (by have := H7.out.2.2; omega) hash lo hi
          have HRG := Lib.hid hrg
          clear hrg
          refine HRG.out.mono ?_
          rintro e w12 ⟨u1, rfl, ho1, hb12⟩
          obtain ⟨A3, d3, rfl, hn3⟩ := own_slice ho1
          have B12 := Lib.hid hb12; have O1 := Lib.hid (SlR.own ho1)
          clear ho1 hb12
          go_wp2_with fail
          refine (range_any W.heap.size W.heap.size r L hash lo hi _ (KT.out _ (C11.out.trans (B12.out.mono C11.out.size))) (by omega)).mono ?_
          rintro e w13 ⟨u2, rfl, ho2, hb13⟩
          obtain ⟨A4, d4, rfl, hn4⟩ := own_slice ho2
          have B13 := Lib.hid (B12.out.trans (hb13.mono B12.out.size)); have O2 := Lib.hid (SlR.own ho2); have O1' := Lib.hid (O1.out.below hb13)
          clear ho2 hb13
          have hrl : (rangeE L hash lo hi).length ≤ 60 := Nat.le_trans (range_le L hash lo hi) hle
          have hse := sameEntries_eq _ _ _ d3 d4 A3 A4 (rangeE L hash lo hi) w13 O1'.out O2.out (by omega)
          have HSE := Lib.hid hse
          clear hse
          go_wp2_with fail
          refine HSE.out.mono ?_
          rintro e w14 ⟨rfl, m14, rfl⟩
          have B14 := Lib.hid (below_drewN B13.out m14)
          generalize w13.drewN m14 = w14 at B14 ⊢
          have I14 := Lib.hid (I11.out.under B14.out)
          have C14 := Lib.hid (C11.out.trans (B14.out.mono C11.out.size))
          have hfi := I14.out.find H7.out.2.1 (by have := H7.out.2.2; omega) hash lo
          have HFI := Lib.hid hfi
          clear hfi
          go_wp2_with fail
          refine HFI.out.mono ?_
          rintro e w15 ⟨u3, rfl, ho3, hb15⟩
          obtain ⟨A5, d5, rfl, hn5⟩ := own_slice ho3
          have B15 := Lib.hid hb15; have O3 := Lib.hid (SlR.own ho3)
          clear ho3 hb15
          go_wp2_with fail
          refine (find_any W.heap.size W.heap.size r L hash lo _ (KT.out _ (C14.out.trans (B15.out.mono C14.out.size))) (by omega)).mono ?_
          rintro e w16 ⟨u4, rfl, ho4, hb16⟩
          obtain ⟨A6, d6, rfl, hn6⟩ := own_slice ho4
          have B16 := Lib.hid (B15.out.trans (hb16.mono B15.out.size)); have O4 := Lib.hid (SlR.own ho4); have O3' := Lib.hid (O3.out.below hb16)
          clear ho4 hb16
          have hfl : (findE L hash lo).length ≤ 60 := Nat.le_trans (find_le L hash lo) hle
          have hsi := sameInts_any _ _ _ _ d5 d6 A5 A6 _ _ w16 O3'.out O4.out (by omega) (by omega)
          have HSI := Lib.hid hsi
          clear hsi
          go_wp2_with fail
          refine HSI.out.mono ?_
          rintro e w17 ⟨rfl, m17, rfl⟩
          have B17 := Lib.hid (below_drewN B16.out m17)
          generalize w16.drewN m17 = w17 at B17 ⊢
          have B17' := Lib.hid (B14.out.trans (B17.out.mono B14.out.size))
          have I17 := Lib.hid (I14.out.under B17.out)
          have C17 := Lib.hid (C14.out.trans (B17.out.mono C14.out.size))
          have E1' := E1.out.below B17'.out E1.out.lt
          have E2' := E2.out.below B17'.out E2.out.lt
          have a0 := E1'.cell 0; have a1 := E1'.cell 1; have a2 := E1'.cell 2
          have b0 := E2'.cell 0; have b1 := E2'.cell 1; have b2 := E2'.cell 2
          have hNe : ∀ w, (binOp .neq 27 (.agg #[.int .i64 p0, .int .i64 p1, .int .i64 p2]) (.agg #[.int .i64 p0, .int .i64 p1, .int .i64 p2])).run Try.prog w = .ok (.bool false) w := fun w => by rw [run_neq_en]; simp
          have hdd : decide (findE L hash lo = findE L hash lo) = true := decide_eq_true rfl
          have hbb : (b != b) = false := by simp
          have hlen := I17.out.len H7.out.2.1 (by have := H7.out.2.2; omega)
          have HLEN := Lib.hid hlen
          clear hlen E1' E2'
          go_wp2_with fail
          refine HLEN.out.mono ?_
          rintro e w18 ⟨rfl, hb18⟩
          have C18 := Lib.hid (C17.out.trans (hb18.mono C17.out.size))
          clear hb18
          go_wp2_with fail
          refine (len_any W.heap.size W.heap.size r L _ (KT.out _ C18.out) (by omega)).mono ?_
          rintro e w19 ⟨rfl, rfl⟩
          have hne : ((L.length : Int) != (L.length : Int)) = false := by simp
          go_wp2_with fail
          go_roundw
          case rel => (repeat apply Exists.intro); exact ⟨⟨k + 1, by omega, by go_num, C18.out⟩, rfl⟩
          case measure => simp [intOf]; omega
    · obtain rfl : k = n2 := by omega
      clear hlt
      go_wp2_with fail
      refine (alive14_any _).mono ?_
      rintro e w4 ⟨rfl, hb4⟩
      have B4 := Lib.hid ((B3.out.trans (Bk.out.mono B3.out.size)).trans (hb4.mono (by have := B3.out.size; have := Bk.out.size; omega)))
      clear hb4
      go_wp2_with fail
      go_ret
      exact ⟨rfl, B4.out⟩
end Go.Proofs.Ytfjilngofdahgaa
