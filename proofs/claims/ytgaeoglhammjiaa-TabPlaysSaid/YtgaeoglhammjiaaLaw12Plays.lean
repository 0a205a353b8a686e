/- chapter 12: TabPlays, walked (printed by mkplays12.py). -/
import Derived.Test.YtgaeoglhammjiaaPlayAt
namespace Go.Proofs.Ytgaeoglhammjiaa
open Go.RowKit
set_option maxHeartbeats 8000000
set_option maxRecDepth 100000
set_option linter.unusedVariables false

theorem tabPlays_any (A0 : Option Addr) (n0 c0 : Nat) (os : List OpE) (hash from_ to_ : Int) (W : World) (hol : os.length = n0) (h1 : SlR W W.heap.size 3 A0 n0 (opVs os)) (hos : ∀ o ∈ os, o.ok W) (hm0 : n0 ≤ 9223372036854775807) :
    Calls Try.prog 5 #[.slice A0 n0 c0, .int .i64 hash, .int .i64 from_, .int .i64 to_] W fun e w' => e = .returned (.bool true) ∧ Below W.heap.size W w' := by
  by_cases q1 : 40 < n0
  · have q1' : decide ((40 : Int) < (n0 : Int)) = true := by rw [decide_eq_true_iff]; omega
    clear h1 hos
    go_enter Try.func5, Try.ntmps5
    go_wp2_with fail
    refine (alive12_any _).mono ?_
    rintro e w1 ⟨rfl, hb1⟩
    go_wp2_with fail
    go_ret
    exact ⟨rfl, hb1⟩
  have q1' : decide ((40 : Int) < (n0 : Int)) = false := by rw [decide_eq_false_iff_not]; omega
  have hn40 : n0 ≤ 40 := by omega
  have H1 := Lib.hid h1; have Hos := Lib.hid hos
  clear h1 hos q1 hol
  go_enter Try.func5, Try.ntmps5
  go_wp2_with fail
  refine (new_any _).mono ?_
  rintro e w1 ⟨rfl, hn1, hb1⟩
  have HN1 := Lib.hid (hn1 W.heap.size); have Hb1 := Lib.hid hb1
  clear hn1 hb1
  obtain ⟨T, hT⟩ : ∃ T, W.heap.size = T := ⟨_, rfl⟩
  go_wp2_with fail
  have hbk := BookAt.new (w := w1) Hb1.out Hb1.out.size (w1.alloc (.cells (bookIE (.slice none 0 0) (.slice none 0 0) (.slice none 0 0) (.slice none 0 0)) 49)).heap.size (fun b => (none : Option Nat) = some b)
  have hp0 : PlayAt W (w1.alloc (.cells (bookIE (.slice none 0 0) (.slice none 0 0) (.slice none 0 0) (.slice none 0 0)) 49)) w1.heap.size W.heap.size none [] (.slice none 0 0) 0 0 :=
    ⟨HN1.out.below ((Below.refl _ _).alloc (Nat.le_refl _) _), Nat.le_refl _, List.Pairwise.nil, World.ownsRow_nil _ _ _ _, hbk⟩
  unfold bookIE at hp0
  have HP0 := Lib.hid hp0
  obtain ⟨w2, hw2⟩ : ∃ w2, w1.alloc (.cells #[.slice none 0 0, .slice none 0 0, .slice none 0 0, .slice none 0 0, .slice none 0 0, .slice none 0 0, .slice none 0 0, .slice none 0 0, .slice none 0 0, .slice none 0 0, .slice none 0 0, .slice none 0 0] 49) = w2 := ⟨_, rfl⟩
  clear hbk hp0
  rw [hw2] at HP0 ⊢
  obtain ⟨G, hG⟩ : ∃ G, w1.heap.size = G := ⟨_, rfl⟩
  rw [hG] at HP0 ⊢
  rw [hT] at HP0
  have HTW := Lib.hid hT
  clear hw2 hG hT HN1
  go_loopw [10, 12] (fun u i wr => ∃ (k : Nat) (r : Option Nat) (L : List En) (v : Value), v = u ∧ k ≤ n0 ∧ i = .int .i64 (k : Int) ∧ L.length ≤ 30 * k ∧ Hid (PlayAt W wr G T r L v k (2 * k))) (fun _ i _ => n0 - (intOf i).toNat)
  case atStart => exact ⟨0, none, [], _, rfl, Nat.zero_le _, rfl, Nat.le_refl _, HP0⟩
  case round =>
    obtain ⟨k, r, L, v, rfl, hk, rfl, hLk, HP⟩ := hrel
    by_cases hlt : k < n0
    · have hlt' : (k : Int) < (n0 : Int) := by omega
      have hk0 : 0 ≤ (k : Int) := by omega
      obtain ⟨RA, Rc, rfl, hRc⟩ := own_slice HP.out.ref
      obtain ⟨ad, o, rfl, had, ho, oc0, oc1, oc2⟩ := (H1.out.below (HP.out.book.bel)).op (k := k) hlt
      have hok := Hos.out o (List.mem_of_getElem? ho)
      have Hoc : Hid (∀ wx, Below W.heap.size W wx → wx.cell? (ad.add (k * 3)) = some (.int .i64 o.kind) ∧ wx.cell? ⟨(ad.add (k * 3)).block, (ad.add (k * 3)).off + 1, none⟩ = some (.int .i64 o.num) ∧ wx.cell? ⟨(ad.add (k * 3)).block, (ad.add (k * 3)).off + 2, none⟩ = some (.slice o.A o.m o.c)) := Lib.hid (fun wx h => by
        obtain ⟨ad2, o2, h9, _, ho2, p0, p1, p2⟩ := (H1.out.below h).op (k := k) hlt
        injection h9 with h9
        subst h9
        rw [ho] at ho2
        injection ho2 with ho2
        subst ho2
        exact ⟨p0, p1, p2⟩)
      obtain ⟨kind, num, oA, om, oc, ol⟩ := o
      dsimp only at oc0 oc1 oc2 Hoc
      obtain ⟨hol, hor, homc, hom9⟩ := hok
      dsimp only at hol hor homc hom9
      have Hor := Lib.hid hor; have Hol := Lib.hid hol
      clear hor ho hol
      have hLn : L.length ≤ 1200 := by omega
      by_cases h30 : 30 < om
      · have h30' : decide ((30 : Int) < (om : Int)) = true := by rw [decide_eq_true_iff]; omega
        go_wp2_with fail
        refine (alive12_any _).mono ?_
        rintro e w3 ⟨rfl, hb3⟩
        have HP3 := Lib.hid (HP.out.under hb3)
        clear hb3
        go_wp2_with fail
        go_ret
        exact ⟨rfl, HP3.out.book.bel⟩
      · have h30' : decide ((30 : Int) < (om : Int)) = false := by rw [decide_eq_false_iff_not]; omega
        have hom30 : om ≤ 30 := by omega
        by_cases hk2 : kind = 2
        · subst hk2
          have hrc := refCut_any RA L.length Rc wr.heap.size L num wr (SlR.own HP.out.ref) (Nat.le_refl _) (by omega)
          have Hrc := Lib.hid hrc
          clear hrc
          go_wp2_with fail
          refine Hrc.out.mono ?_
          rintro x w3 ⟨u3, rfl, hu3, hb3⟩
          have HP3 := Lib.hid (HP.out.under hb3)
          have Hu3 := Lib.hid (own_mono hu3 (HP.out.book.bel.size))
          obtain ⟨RB, Rd, rfl, hRd⟩ := own_slice hu3
          have hct := cut_any W.heap.size T r L num w3 HP3.out.tab (HP3.out.book.bel.size) (by omega)
          have Hct := Lib.hid hct
          have hcl := cutE_le L num
          have hcs := cutE_sorted HP.out.sorted num
          obtain ⟨L2, hL2⟩ : ∃ L2, cutE L num = L2 := ⟨_, rfl⟩
          rw [hL2] at Hct Hu3 hcl hcs ⊢
          have Hcs := Lib.hid hcs
          obtain ⟨f0, f1, f2⟩ := Hoc.out _ HP3.out.book.bel
          have hsub : (L.length : Int) - (L2.length : Int) = ((L.length - L2.length : Nat) : Int) := by omega
          have hnn : (((L.length : Int) - (L2.length : Int)) != ((L.length : Int) - (L2.length : Int))) = false := by simp
          clear hu3 hb3 hct hcs hL2 Hrc hsub oc0 oc1 oc2
          go_wp2_with fail
          refine Hct.out.mono ?_
          rintro x w4 ⟨rfl, ht4, hs4⟩
          have HPP : Hid (PlayAt W w4 G T r L2 (.slice RB L2.length Rd) k (2 * k)) := Lib.hid (HP3.out.step ht4 hs4 Hcs.out Hu3.out)
          have hL2k : L2.length ≤ 30 * (k + 1) := by omega
          clear ht4 hs4 HP HP3 Hu3 Hct f0 f1 f2
          go_wp2_with fail
          refine (all_any _ T r L2 _ HPP.out.tab (by omega)).mono ?_
          rintro x v1 ⟨ua, rfl, ha, ha1⟩
          have Ha := Lib.hid ha
          have HP1 := Lib.hid (HPP.out.under ha1)
          have HZ1 := Lib.hid ha1
          clear ha ha1
          go_wp2_with fail
          refine (range_any _ T r L2 hash from_ to_ _ HP1.out.tab (by omega)).mono ?_
          rintro x v2 ⟨uc, rfl, hc, ha2⟩
          have Hc := Lib.hid hc
          have HP2 := Lib.hid (HP1.out.under ha2)
          have HZ2 := Lib.hid ha2
          clear hc ha2
          go_wp2_with fail
          refine (find_any _ T r L2 hash from_ _ HP2.out.tab (by omega)).mono ?_
          rintro x v3 ⟨ud, rfl, hd, ha3⟩
          have Hd := Lib.hid hd
          have HPb := Lib.hid (HP2.out.under ha3)
          have HZ3 := Lib.hid ha3
          clear hd ha3
          have z1 := HZ1.out.size; have z2 := HZ2.out.size; have z3 := HZ3.out.size
          have hrl := range_le L2 hash from_ to_
          have hfl := find_le L2 hash from_
          have ua1 : ∀ b, ua.ownBlock = some b → b < v1.heap.size := fun b hb => (Ha.out.lt b hb).2
          have uc1 : ∀ b, uc.ownBlock = some b → b < v2.heap.size := fun b hb => (Hc.out.lt b hb).2
          have ud1 : ∀ b, ud.ownBlock = some b → b < v3.heap.size := fun b hb => (Hd.out.lt b hb).2
          have HZ13 := Lib.hid (HZ2.out.trans (HZ3.out.mono z2))
          have HZ03 := Lib.hid (HZ1.out.trans (HZ13.out.mono z1))
          have Ha4 := Lib.hid (own_below Ha.out HZ13.out (fun q hq => ua1 q hq))
          have Hc4 := Lib.hid (own_below Hc.out HZ3.out (fun q hq => uc1 q hq))
          have HB4 := Lib.hid (HPP.out.book.under HZ03.out)
          have hrR : ∀ b, r = some b → b < w4.heap.size := fun b hb => (HPP.out.tab.row_lt b hb).2
          have HrR := Lib.hid hrR
          have HgH := Lib.hid HPP.out.book.size
          have hlo := HPP.out.lo
          have hWs := HPP.out.book.bel.size
          have Hua1 := Lib.hid ua1; have Huc1 := Lib.hid uc1; have Hud1 := Lib.hid ud1
          have HT4 := Lib.hid HPb.out.tab; have HR4 := Lib.hid HPb.out.ref
          have hgh : G + 1 ≤ w4.heap.size := HgH.out
          clear ua1 uc1 ud1 HP1 HP2 Ha Hc hrR HZ1 HZ2 HZ3 HZ13
          obtain ⟨RL, hRL⟩ : ∃ q, rangeE L2 hash from_ to_ = q := ⟨_, rfl⟩
          obtain ⟨FL, hFL⟩ : ∃ q, findE L2 hash from_ = q := ⟨_, rfl⟩
          rw [hRL] at Hc4 hrl
          rw [hFL] at Hd hfl
          have HRL := Lib.hid hRL; have HFL := Lib.hid hFL
          clear hRL hFL
          go_wp2_with fail
          refine (bookE_add W _ W.heap.size G (G + 1) _ _ w4.heap.size v1.heap.size L2.length _ ua L2 HB4.out HrR.out Ha4.out Hua1.out (by omega) (by omega) (by omega) hgh z1).mono ?_
          rintro x v5 ⟨rfl, hB5, hsp⟩
          have HT5 := Lib.hid (HT4.out.spare hsp (by decide) (by decide))
          have Ha5 := Lib.hid (hsp.own _ _ _ _ _ _ (by decide) (by decide) Ha4.out)
          have Hc5 := Lib.hid (hsp.own _ _ _ _ _ _ (by decide) (by decide) Hc4.out)
          have Hd5 := Lib.hid (hsp.own _ _ _ _ _ _ (by decide) (by decide) Hd.out)
          have HR5 := Lib.hid (hsp.own _ _ _ _ _ _ (by decide) (by decide) HR4.out)
          have HB5 := Lib.hid hB5
          have y5 := hsp.bel.size
          clear hB5 hsp HT4 Ha4 Hc4 Hd HR4 HB4
          have HrR1 := Lib.hid (fun b (hb : r = some b) => Nat.lt_of_lt_of_le (HrR.out b hb) z1)
          go_wp2_with fail
          refine (bookE_add W _ W.heap.size G (G + 1) _ _ v1.heap.size v2.heap.size RL.length _ uc RL HB5.out HrR1.out Hc5.out Huc1.out (by omega) (by omega) (by omega) (by omega) z2).mono ?_
          rintro x v6 ⟨rfl, hB6, hsp⟩
          have HT6 := Lib.hid (HT5.out.spare hsp (by decide) (by decide))
          have Ha6 := Lib.hid (hsp.own _ _ _ _ _ _ (by decide) (by decide) Ha5.out)
          have Hc6 := Lib.hid (hsp.own _ _ _ _ _ _ (by decide) (by decide) Hc5.out)
          have Hd6 := Lib.hid (hsp.own _ _ _ _ _ _ (by decide) (by decide) Hd5.out)
          have HR6 := Lib.hid (hsp.own _ _ _ _ _ _ (by decide) (by decide) HR5.out)
          have HB6 := Lib.hid hB6
          have y6 := hsp.bel.size
          clear hB6 hsp HT5 Ha5 Hc5 Hd5 HR5 HB5
          go_wp2_with fail
          refine (bookI_add W _ W.heap.size G (G + 1) _ _ v2.heap.size v3.heap.size FL.length _ ud FL HB6.out Hd6.out Hud1.out (by omega) (by omega) (by omega) z3).mono ?_
          rintro x v8 ⟨rfl, hB8, hsp⟩
          have hT8 := HT6.out.spare hsp (by decide) (by decide)
          have ha8 := hsp.own _ _ _ _ _ _ (by decide) (by decide) Ha6.out
          have hc8 := hsp.own _ _ _ _ _ _ (by decide) (by decide) Hc6.out
          have hd8 := hsp.own _ _ _ _ _ _ (by decide) (by decide) Hd6.out
          have hR8 := hsp.own _ _ _ _ _ _ (by decide) (by decide) HR6.out
          have y8 := hsp.bel.size
          have HPL : Hid (PlayAt W v8 G T r L2 (.slice RB L2.length Rd) (k + 1) (2 * k + 1 + 1)) := Lib.hid ⟨hT8, hlo, HPP.out.sorted, hR8, hB8.far (by omega)⟩
          obtain ⟨Aa, ca, rfl, _⟩ := own_slice ha8
          obtain ⟨Ac, cc, rfl, _⟩ := own_slice hc8
          obtain ⟨Ad, cd, rfl, _⟩ := own_slice hd8
          have hF : ∀ wx, Below v8.heap.size v8 wx → TabIs wx W.heap.size T r L2 ∧ SlR wx v8.heap.size 3 Aa L2.length (enVs L2) ∧ SlR wx v8.heap.size 3 Ac RL.length (enVs RL) ∧ SlR wx v8.heap.size 1 Ad FL.length (intVs FL) ∧ SlR wx v8.heap.size 3 RB L2.length (enVs L2) := fun wx hx =>
            ⟨hT8.below hx, (SlR.own ha8).below hx, (SlR.own hc8).below hx, (SlR.own hd8).below hx, (SlR.own hR8).below hx⟩
          have HF := Lib.hid hF
          clear hB8 hsp HT6 Ha6 Hc6 Hd6 HR6 HB6 hT8 ha8 hc8 hd8 hR8 hF
          have hr8 := Below.refl v8.heap.size v8
          have Hr8 := Lib.hid hr8
          obtain ⟨lp, hlp⟩ : ∃ p, p = (lastE L2 hash).getD (0, 0, 0) := ⟨_, rfl⟩
          obtain ⟨lq, hlq⟩ : ∃ q, q = (lastE L2 hash).isSome := ⟨_, rfl⟩
          have hlT := last_any W.heap.size T r L2 hash v8 (HF.out v8 hr8).1 (by omega)
          have hlR := fun wx (hx : Below v8.heap.size v8 wx) => refLast_any RB L2.length Rd v8.heap.size L2 hash wx (HF.out wx hx).2.2.2.2 hx.size (by omega)
          rw [← hlp, ← hlq] at hlT
          simp only [← hlp, ← hlq] at hlR
          obtain ⟨l0, l1, l2⟩ := lp
          unfold enA at hlT hlR
          dsimp only at hlT hlR
          have HlT := Lib.hid hlT; have HlR := Lib.hid hlR
          clear hlT hlR hlp hlq hr8
          go_wp2_with fail
          refine HlT.out.mono ?_
          rintro x v9 ⟨rfl, hb9⟩
          obtain ⟨V9, hV9⟩ : ∃ V, v9.alloc (.cells #[.int .i64 l0, .int .i64 l1, .int .i64 l2] 26) = V := ⟨_, rfl⟩
          have hE9 : BlkIs V9 v9.heap.size 26 #[.int .i64 l0, .int .i64 l1, .int .i64 l2] := by rw [← hV9]; exact BlkIs.new _ _ _
          have hb9' : Below v8.heap.size v8 V9 := by rw [← hV9]; exact hb9.alloc hb9.size _
          have HE9 := Lib.hid hE9; have Hb9 := Lib.hid hb9'
          clear hb9 hE9 hb9' HlT
          go_wp2_with fail
          refine (HlR.out _ (by first | exact Hb9.out | (rw [hV9]; exact Hb9.out))).mono ?_
          rintro x v10 ⟨rfl, hb10⟩
          (try rw [hV9] at hb10)
          obtain ⟨V10, hV10⟩ : ∃ V, v10.alloc (.cells #[.int .i64 l0, .int .i64 l1, .int .i64 l2] 58) = V := ⟨_, rfl⟩
          have hE10 : BlkIs V10 v10.heap.size 58 #[.int .i64 l0, .int .i64 l1, .int .i64 l2] := by rw [← hV10]; exact BlkIs.new _ _ _
          have hbq10 : Below v10.heap.size v10 V10 := by rw [← hV10]; exact (Below.refl _ _).alloc (Nat.le_refl _) _
          have HE9' := Lib.hid ((HE9.out.below hb10 HE9.out.lt).below hbq10 (Nat.lt_of_lt_of_le HE9.out.lt hb10.size))
          have HE10 := Lib.hid hE10
          have Hb10 := Lib.hid ((Hb9.out.trans (hb10.mono Hb9.out.size)).trans (hbq10.mono (Nat.le_trans Hb9.out.size hb10.size)))
          have hcc : ∀ wx, Below V10.heap.size V10 wx → (wx.cell? ⟨v9.heap.size, 0, none⟩ = some (.int .i64 l0) ∧ wx.cell? ⟨v9.heap.size, 1, none⟩ = some (.int .i64 l1) ∧ wx.cell? ⟨v9.heap.size, 2, none⟩ = some (.int .i64 l2)) ∧ (wx.cell? ⟨v10.heap.size, 0, none⟩ = some (.int .i64 l0) ∧ wx.cell? ⟨v10.heap.size, 1, none⟩ = some (.int .i64 l1) ∧ wx.cell? ⟨v10.heap.size, 2, none⟩ = some (.int .i64 l2)) := fun wx hx => by
            have f := (HE9'.out.below hx HE9'.out.lt).cell
            have g := (HE10.out.below hx HE10.out.lt).cell
            exact ⟨⟨f 0, f 1, f 2⟩, g 0, g 1, g 2⟩
          have Hcc := Lib.hid hcc
          clear hb10 hE10 hbq10 hcc HlR
          have hreal := fun wx (hx : Below v8.heap.size v8 wx) => real12_any RB L2.length Rd v8.heap.size L2 wx (HF.out wx hx).2.2.2.2 hx.size (by omega)
          have Hreal := Lib.hid hreal
          clear hreal
          have hqq : (lq != lq) = false := by simp
          have hNe : ∀ w, (binOp .neq 26 (.agg #[.int .i64 l0, .int .i64 l1, .int .i64 l2]) (.agg #[.int .i64 l0, .int .i64 l1, .int .i64 l2])).run Try.prog w = .ok (.bool false) w := fun w => by rw [run_neq_en]; simp
          have hnn9 : ((L2.length : Int) != (L2.length : Int)) = false := by simp
          go_wp2_with fail
          refine (Hreal.out _ (by first | exact Hb10.out | (rw [hV10]; exact Hb10.out))).mono ?_
          rintro x v11 ⟨u11, rfl, ho11, hb11⟩
          (try rw [hV10] at hb11)
          obtain ⟨A11, c11, rfl, _⟩ := own_slice ho11
          have Hb11 := Lib.hid (Hb10.out.trans (hb11.mono Hb10.out.size))
          have Hw11 := Lib.hid hb11
          have hsame := sameEntries_eq v8.heap.size v11.heap.size L2.length ca c11 Aa A11 L2 v11 (HF.out _ Hb11.out).2.1 (SlR.own ho11) (by omega)
          have Hsame := Lib.hid hsame
          clear ho11 hb11 hsame
          go_wp2_with fail
          refine Hsame.out.mono ?_
          rintro x v12 ⟨rfl, k12, rfl⟩
          have Hb12 := Lib.hid (below_drewN Hb11.out k12); have Hw12 := Lib.hid (below_drewN Hw11.out k12)
          obtain ⟨v12, hv12⟩ : ∃ v, v11.drewN k12 = v := ⟨_, rfl⟩
          rw [hv12] at Hb12 Hw12 ⊢
          clear hv12 Hb11 Hw11 Hsame
          have hrr := refRange_any RB L2.length Rd v8.heap.size L2 hash from_ to_ v12 (HF.out _ Hb12.out).2.2.2.2 Hb12.out.size (by omega)
          rw [HRL.out] at hrr
          have Hrr := Lib.hid hrr
          clear hrr
          go_wp2_with fail
          refine Hrr.out.mono ?_
          rintro x v13 ⟨u13, rfl, ho13, hb13⟩
          obtain ⟨A13, c13, rfl, _⟩ := own_slice ho13
          have Hb13 := Lib.hid (Hb12.out.trans (hb13.mono Hb12.out.size)); have Hw13 := Lib.hid (Hw12.out.trans (hb13.mono Hw12.out.size))
          have hre := real12_any A13 RL.length c13 v13.heap.size RL v13 (SlR.own ho13) (Nat.le_refl _) (by omega)
          have Hre := Lib.hid hre
          clear ho13 hb13 hre Hb12 Hw12 Hrr
          go_wp2_with fail
          refine Hre.out.mono ?_
          rintro x v14 ⟨u14, rfl, ho14, hb14⟩
          obtain ⟨A14, c14, rfl, _⟩ := own_slice ho14
          have Hb14 := Lib.hid (Hb13.out.trans (hb14.mono Hb13.out.size)); have Hw14 := Lib.hid (Hw13.out.trans (hb14.mono Hw13.out.size))
          have hsame := sameEntries_eq v8.heap.size v14.heap.size RL.length cc c14 Ac A14 RL v14 (HF.out _ Hb14.out).2.2.1 (SlR.own ho14) (by omega)
          have Hsame := Lib.hid hsame
          clear ho14 hb14 hsame Hb13 Hw13 Hre
          go_wp2_with fail
          refine Hsame.out.mono ?_
          rintro x v15 ⟨rfl, k15, rfl⟩
          have Hb15 := Lib.hid (below_drewN Hb14.out k15); have Hw15 := Lib.hid (below_drewN Hw14.out k15)
          obtain ⟨v15, hv15⟩ : ∃ v, v14.drewN k15 = v := ⟨_, rfl⟩
          rw [hv15] at Hb15 Hw15 ⊢
          clear hv15 Hb14 Hw14 Hsame
          have hrf := refFind_any RB L2.length Rd v8.heap.size L2 hash from_ v15 (HF.out _ Hb15.out).2.2.2.2 Hb15.out.size (by omega)
          rw [HFL.out] at hrf
          have Hrf := Lib.hid hrf
          clear hrf
          go_wp2_with fail
          refine Hrf.out.mono ?_
          rintro x v16 ⟨u16, rfl, ho16, hb16⟩
          obtain ⟨A16, c16, rfl, _⟩ := own_slice ho16
          have Hb16 := Lib.hid (Hb15.out.trans (hb16.mono Hb15.out.size)); have Hw16 := Lib.hid (Hw15.out.trans (hb16.mono Hw15.out.size))
          have hsi := sameInts_any v8.heap.size v16.heap.size FL.length FL.length cd c16 Ad A16 FL FL v16 (HF.out _ Hb16.out).2.2.2.1 (SlR.own ho16) (by omega) (by omega)
          rw [decide_eq_true rfl] at hsi
          have Hsi := Lib.hid hsi
          clear ho16 hb16 hsi Hb15 Hw15 Hrf
          go_wp2_with fail
          refine Hsi.out.mono ?_
          rintro x v20 ⟨rfl, k17, rfl⟩
          have Hb20 := Lib.hid (below_drewN Hb16.out k17); have Hw20 := Lib.hid (below_drewN Hw16.out k17)
          obtain ⟨v20, hv20⟩ : ∃ v, v16.drewN k17 = v := ⟨_, rfl⟩
          rw [hv20] at Hb20 Hw20 ⊢
          clear hv20 Hb16 Hw16 Hsi
          obtain ⟨⟨f0, f1, f2⟩, g0, g1, g2⟩ := Hcc.out _ Hw20.out
          have hlc := len_any W.heap.size T r L2 v20 (HF.out _ Hb20.out).1 (by omega)
          have Hlc := Lib.hid hlc
          clear hlc
          go_wp2_with fail
          refine Hlc.out.mono ?_
          rintro x v21 ⟨rfl, rfl⟩
          have HPf0 := HPL.out.under Hb20.out
          have HPf : Hid (PlayAt W v20 G T r L2 (.slice RB L2.length Rd) (k + 1) (2 * (k + 1))) := Lib.hid ⟨HPf0.tab, HPf0.lo, HPf0.sorted, HPf0.ref, HPf0.book.more (Nat.le_refl _) (by omega)⟩
          clear f0 f1 f2 g0 g1 g2 Hcc HPf0
          go_wp2_with fail
          go_roundw
          case rel => exact ⟨k + 1, r, L2, _, rfl, by omega, by go_num, hL2k, HPf⟩
          case measure => simp [intOf]; omega
        · have hk2' : (kind == 2) = false := beq_eq_false_iff_ne.2 hk2
          have hle := lentEntries_any W.heap.size om oc oA ol wr (Hor.out.below HP.out.book.bel) HP.out.book.bel.size (by omega) homc
          have Hle := Lib.hid hle
          clear hle
          go_wp2_with fail
          refine Hle.out.mono ?_
          rintro x w3 ⟨gm, cm, rfl, hcm, hm3, hb3⟩
          have HP3 := Lib.hid (HP.out.under hb3)
          have Hm3 := Lib.hid hm3
          have hgm : wr.heap.size ≤ gm := (hm3.lt gm rfl).1
          obtain ⟨f0, f1, f2⟩ := Hoc.out _ HP3.out.book.bel
          have hpl := plain12_any oA om oc W.heap.size ol w3 (Hor.out.below HP3.out.book.bel) HP3.out.book.bel.size (by omega)
          have Hpl := Lib.hid hpl
          clear hm3 hb3 hpl Hle oc0 oc1 oc2
          go_wp2_with fail
          refine Hpl.out.mono ?_
          rintro x w4 ⟨up, rfl, hp4, hb4⟩
          have HP4 := Lib.hid (HP3.out.under hb4)
          have Hm4 := Lib.hid (own_below Hm3.out hb4 (fun q hq => (Hm3.out.lt q hq).2))
          obtain ⟨PA, Pc, rfl, hPc⟩ := own_slice hp4
          have Hp4 := Lib.hid (SlR.own hp4)
          have hw4 : w3.heap.size ≤ w4.heap.size := hb4.size
          have hgm4 : gm < w4.heap.size := (Hm4.out.lt gm rfl).2
          have hTg : T ≠ gm := by have := HP.out.tab.lt; omega
          have hrg : some gm ≠ r := fun e => by have := (HP.out.tab.row_lt gm e.symm).2; omega
          clear hp4 hb4 Hpl f0 f1 f2
          go_wp2_with fail
          go_loopw [10, 15, 17] (fun u c j wx => ∃ (j' : Nat) (v : Value), v = u ∧ j' ≤ om ∧ j = .int .i64 (j' : Int) ∧ c = .int .i64 (((addsE L (ol.take j')).length : Int) - (L.length : Int)) ∧ Hid (wx.ownsRow W.heap.size 58 3 v (addsE L (ol.take j')).length (enVs (addsE L (ol.take j'))) ∧ Below w4.heap.size w4 wx)) (fun _ _ j _ => om - (intOf j).toNat)
          case atStart => exact ⟨0, _, rfl, Nat.zero_le _, rfl, by simp [addsE], Lib.hid ⟨by simpa [addsE] using HP4.out.ref, Below.refl _ _⟩⟩
          case round =>
            obtain ⟨j, v, rfl, hj, rfl, rfl, HI⟩ := hrel
            rename World => wx
            obtain ⟨QA, Qc, rfl, hQc⟩ := own_slice HI.out.1
            have hal := adds_le L (ol.take j)
            have htl : (ol.take j).length ≤ j := by rw [List.length_take]; omega
            by_cases hlj : j < om
            · have hlj' : (j : Int) < (om : Int) := by omega
              have hj0 : 0 ≤ (j : Int) := by omega
              obtain ⟨pd, e, rfl, hpd, he, pat⟩ := Hp4.out.en (k := j) hlj
              have pat' := pat.below HI.out.2 (by rw [add_block]; exact hpd)
              obtain ⟨pc0, pc1, pc2⟩ := pat'
              have hsnoc : addsE L (ol.take (j + 1)) = insE (addsE L (ol.take j)) e := by rw [List.take_add_one, he]; exact adds_snoc _ _ _
              have hil := ins_length (addsE L (ol.take j)) e
              have hra := refAdd_any QA (addsE L (ol.take j)).length Qc wx.heap.size (addsE L (ol.take j)) e wx (SlR.own HI.out.1) (Nat.le_refl _) (by omega) hQc (fun h => by
                subst h
                rcases HI.out.1.2 with ⟨h9, _⟩ | ⟨g9, _, _, h9, _⟩
                · injection h9
                · injection h9 with h9; cases h9)
              obtain ⟨e0, e1, e2⟩ := e
              dsimp only at pc0 pc1 pc2
              unfold enA at hra
              dsimp only at hra
              have HO := Lib.hid HI.out.1; have HBx := Lib.hid HI.out.2
              generalize addsE L (ol.take j) = M at hal hsnoc hil hra HO hQc
              have hMn : M.length ≤ 1230 := by omega
              have Hra := Lib.hid hra; have Hsn := Lib.hid hsnoc; have Hil := Lib.hid hil
              clear hra hsnoc hil pat he HI hpd
              cases hnw : newE M (e0, e1, e2) with
              | true =>
                rw [hnw] at Hra Hil
                rw [if_pos rfl] at Hil
                go_wp2_with fail
                refine Hra.out.mono ?_
                rintro x wy ⟨A', n', c', rfl, hsl, hc', hAA, _, hby⟩
                have hsl' := hsl.len
                rw [enVs_length] at hsl'
                have hown : wy.ownsRow W.heap.size 58 3 (.slice A' n' c') (insE M (e0, e1, e2)).length (enVs (insE M (e0, e1, e2))) := by
                  rcases hAA with ⟨rfl, rfl, rfl⟩ | ho
                  · have := Hil.out
                    omega
                  · have hnl : n' = (insE M (e0, e1, e2)).length := by have := ho.1; rw [enVs_length] at this; omega
                    rw [← hnl]
                    exact own_mono ho (by have := HBx.out.size; have := HP4.out.book.bel.size; omega)
                have Hfin := Lib.hid (And.intro hown (HBx.out.trans (hby.mono HBx.out.size)))
                clear hAA hby hown hnw
                go_wp2_with fail
                go_roundw
                case rel => exact ⟨j + 1, _, rfl, by omega, by go_num, by rw [Hsn.out, Hil.out]; congr 1; omega, by rw [Hsn.out]; exact Hfin⟩
                case measure => simp [intOf]; omega
              | false =>
                rw [hnw] at Hra Hil
                have hin : insE M (e0, e1, e2) = M := by unfold insE; rw [hnw]; rfl
                rw [hin] at Hra Hsn
                clear hin Hil
                go_wp2_with fail
                refine Hra.out.mono ?_
                rintro x wy ⟨A', n', c', rfl, hsl, hc', hAA, _, hby⟩
                have hsl' := hsl.len
                rw [enVs_length] at hsl'
                have hown : wy.ownsRow W.heap.size 58 3 (.slice A' n' c') M.length (enVs M) := by
                  rcases hAA with ⟨rfl, rfl, rfl⟩ | ho
                  · exact own_below HO.out hby (fun q hq => (HO.out.lt q hq).2)
                  · have hnl : n' = M.length := by have := ho.1; rw [enVs_length] at this; omega
                    subst hnl
                    exact own_mono ho (by have := HBx.out.size; have := HP4.out.book.bel.size; omega)
                have Hfin := Lib.hid (And.intro hown (HBx.out.trans (hby.mono HBx.out.size)))
                clear hAA hby hown hnw hsl hsl'
                go_wp2_with fail
                go_roundw
                case rel => exact ⟨j + 1, _, rfl, by omega, by go_num, by rw [Hsn.out], by rw [Hsn.out]; exact Hfin⟩
                case measure => simp [intOf]; omega
            · obtain rfl : j = om := by omega
              have hdj : decide ((j : Int) < (j : Int)) = false := by simp
              have htk : ol.take j = ol := List.take_of_length_le (by rw [Hol.out]; exact Nat.le_refl _)
              rw [htk] at HI hal hQc ⊢
              have HO := Lib.hid HI.out.1; have HBx := Lib.hid HI.out.2
              have HPx := Lib.hid (HP4.out.under HI.out.2)
              have Hmx := Lib.hid (own_below Hm4.out HI.out.2 (fun q hq => (Hm4.out.lt q hq).2))
              have has := adds_sorted HP4.out.sorted ol
              have hal2 := (adds_le L ol).2
              rw [Hol.out] at hal2
              have had2 := add_any W.heap.size T r L ol (some ⟨gm, 0, none⟩) j cm wx HPx.out.tab HPx.out.sorted ((lentE_sl Hmx.out).1) (fun _ a2 e => by injection e with e; subst e; exact ⟨fun e => hTg e.symm, hrg⟩) HPx.out.book.bel.size (by omega)
              obtain ⟨L2, hL2⟩ : ∃ L2, addsE L ol = L2 := ⟨_, rfl⟩
              rw [hL2] at HO has hal2 had2 hQc ⊢
              have Had2 := Lib.hid had2; have Has := Lib.hid has
              have hnn : (((L2.length : Int) - (L.length : Int)) != ((L2.length : Int) - (L.length : Int))) = false := by simp
              clear HI hal had2 has htk hL2
              go_wp2_with fail
              refine Had2.out.mono ?_
              rintro x w5 ⟨rfl, r5, ht5, hs5⟩
              have hPP := HPx.out.step ht5 hs5 Has.out HO.out
              have hm5 := own_keepS Hmx.out (tab_below HPx.out.tab HPx.out.lo hs5) (fun q hq hS => by
                have hq' : gm = q := by simpa [Value.ownBlock] using hq
                subst hq'
                rcases hS with h9 | h9
                · exact hTg h9.symm
                · exact hrg h9.symm)
              have HP5 := Lib.hid hPP
              have hst := staysEntries_any W.heap.size j cm oc gm oA ol _ w5 hm5 (Hor.out.below hPP.book.bel) (by omega)
              have Hst := Lib.hid hst
              obtain ⟨f0, f1, f2⟩ := Hoc.out _ hPP.book.bel
              clear ht5 hs5 hPP hm5 hst Had2 HO HBx HPx Hmx
              go_wp2_with fail
              refine Hst.out.mono ?_
              rintro x w6 ⟨rfl, k6, rfl⟩
              have hb6 : Below w5.heap.size w5 (w5.drewN k6) := below_drewN (Below.refl _ _) k6
              have HPP0 := Lib.hid (HP5.out.under hb6)
              obtain ⟨w6, hw6⟩ : ∃ w, w5.drewN k6 = w := ⟨_, rfl⟩
              rw [hw6] at HPP0 ⊢
              have HPP : Hid (PlayAt W w6 G T r5 L2 (.slice QA L2.length Qc) k (2 * k)) := HPP0
              have hL2k : L2.length ≤ 30 * (k + 1) := by omega
              clear hw6 hb6 HPP0 HP5 Hst f0 f1 f2 HP HP3 HP4 Hm3 Hm4 Hp4 hTg hrg
              go_wp2_with fail
              refine (all_any _ T r5 L2 _ HPP.out.tab (by omega)).mono ?_
              rintro x v1 ⟨ua, rfl, ha, ha1⟩
              have Ha := Lib.hid ha
              have HP1 := Lib.hid (HPP.out.under ha1)
              have HZ1 := Lib.hid ha1
              clear ha ha1
              go_wp2_with fail
              refine (range_any _ T r5 L2 hash from_ to_ _ HP1.out.tab (by omega)).mono ?_
              rintro x v2 ⟨uc, rfl, hc, ha2⟩
              have Hc := Lib.hid hc
              have HP2 := Lib.hid (HP1.out.under ha2)
              have HZ2 := Lib.hid ha2
              clear hc ha2
              go_wp2_with fail
              refine (find_any _ T r5 L2 hash from_ _ HP2.out.tab (by omega)).mono ?_
              rintro x v3 ⟨ud, rfl, hd, ha3⟩
              have Hd := Lib.hid hd
              have HPb := Lib.hid (HP2.out.under ha3)
              have HZ3 := Lib.hid ha3
              clear hd ha3
              have z1 := HZ1.out.size; have z2 := HZ2.out.size; have z3 := HZ3.out.size
              have hrl := range_le L2 hash from_ to_
              have hfl := find_le L2 hash from_
              have ua1 : ∀ b, ua.ownBlock = some b → b < v1.heap.size := fun b hb => (Ha.out.lt b hb).2
              have uc1 : ∀ b, uc.ownBlock = some b → b < v2.heap.size := fun b hb => (Hc.out.lt b hb).2
              have ud1 : ∀ b, ud.ownBlock = some b → b < v3.heap.size := fun b hb => (Hd.out.lt b hb).2
              have HZ13 := Lib.hid (HZ2.out.trans (HZ3.out.mono z2))
              have HZ03 := Lib.hid (HZ1.out.trans (HZ13.out.mono z1))
              have Ha4 := Lib.hid (own_below Ha.out HZ13.out (fun q hq => ua1 q hq))
              have Hc4 := Lib.hid (own_below Hc.out HZ3.out (fun q hq => uc1 q hq))
              have HB4 := Lib.hid (HPP.out.book.under HZ03.out)
              have hrR : ∀ b, r5 = some b → b < w6.heap.size := fun b hb => (HPP.out.tab.row_lt b hb).2
              have HrR := Lib.hid hrR
              have HgH := Lib.hid HPP.out.book.size
              have hlo := HPP.out.lo
              have hWs := HPP.out.book.bel.size
              have Hua1 := Lib.hid ua1; have Huc1 := Lib.hid uc1; have Hud1 := Lib.hid ud1
              have HT4 := Lib.hid HPb.out.tab; have HR4 := Lib.hid HPb.out.ref
              have hgh : G + 1 ≤ w6.heap.size := HgH.out
              clear ua1 uc1 ud1 HP1 HP2 Ha Hc hrR HZ1 HZ2 HZ3 HZ13
              obtain ⟨RL, hRL⟩ : ∃ q, rangeE L2 hash from_ to_ = q := ⟨_, rfl⟩
              obtain ⟨FL, hFL⟩ : ∃ q, findE L2 hash from_ = q := ⟨_, rfl⟩
              rw [hRL] at Hc4 hrl
              rw [hFL] at Hd hfl
              have HRL := Lib.hid hRL; have HFL := Lib.hid hFL
              clear hRL hFL
              go_wp2_with fail
              refine (bookE_add W _ W.heap.size G (G + 1) _ _ w6.heap.size v1.heap.size L2.length _ ua L2 HB4.out HrR.out Ha4.out Hua1.out (by omega) (by omega) (by omega) hgh z1).mono ?_
              rintro x v5 ⟨rfl, hB5, hsp⟩
              have HT5 := Lib.hid (HT4.out.spare hsp (by decide) (by decide))
              have Ha5 := Lib.hid (hsp.own _ _ _ _ _ _ (by decide) (by decide) Ha4.out)
              have Hc5 := Lib.hid (hsp.own _ _ _ _ _ _ (by decide) (by decide) Hc4.out)
              have Hd5 := Lib.hid (hsp.own _ _ _ _ _ _ (by decide) (by decide) Hd.out)
              have HR5 := Lib.hid (hsp.own _ _ _ _ _ _ (by decide) (by decide) HR4.out)
              have HB5 := Lib.hid hB5
              have y5 := hsp.bel.size
              clear hB5 hsp HT4 Ha4 Hc4 Hd HR4 HB4
              have HrR1 := Lib.hid (fun b (hb : r5 = some b) => Nat.lt_of_lt_of_le (HrR.out b hb) z1)
              go_wp2_with fail
              refine (bookE_add W _ W.heap.size G (G + 1) _ _ v1.heap.size v2.heap.size RL.length _ uc RL HB5.out HrR1.out Hc5.out Huc1.out (by omega) (by omega) (by omega) (by omega) z2).mono ?_
              rintro x v6 ⟨rfl, hB6, hsp⟩
              have HT6 := Lib.hid (HT5.out.spare hsp (by decide) (by decide))
              have Ha6 := Lib.hid (hsp.own _ _ _ _ _ _ (by decide) (by decide) Ha5.out)
              have Hc6 := Lib.hid (hsp.own _ _ _ _ _ _ (by decide) (by decide) Hc5.out)
              have Hd6 := Lib.hid (hsp.own _ _ _ _ _ _ (by decide) (by decide) Hd5.out)
              have HR6 := Lib.hid (hsp.own _ _ _ _ _ _ (by decide) (by decide) HR5.out)
              have HB6 := Lib.hid hB6
              have y6 := hsp.bel.size
              clear hB6 hsp HT5 Ha5 Hc5 Hd5 HR5 HB5
              go_wp2_with fail
              refine (bookI_add W _ W.heap.size G (G + 1) _ _ v2.heap.size v3.heap.size FL.length _ ud FL HB6.out Hd6.out Hud1.out (by omega) (by omega) (by omega) z3).mono ?_
              rintro x v8 ⟨rfl, hB8, hsp⟩
              have hT8 := HT6.out.spare hsp (by decide) (by decide)
              have ha8 := hsp.own _ _ _ _ _ _ (by decide) (by decide) Ha6.out
              have hc8 := hsp.own _ _ _ _ _ _ (by decide) (by decide) Hc6.out
              have hd8 := hsp.own _ _ _ _ _ _ (by decide) (by decide) Hd6.out
              have hR8 := hsp.own _ _ _ _ _ _ (by decide) (by decide) HR6.out
              have y8 := hsp.bel.size
              have HPL : Hid (PlayAt W v8 G T r5 L2 (.slice QA L2.length Qc) (k + 1) (2 * k + 1 + 1)) := Lib.hid ⟨hT8, hlo, HPP.out.sorted, hR8, hB8.far (by omega)⟩
              obtain ⟨Aa, ca, rfl, _⟩ := own_slice ha8
              obtain ⟨Ac, cc, rfl, _⟩ := own_slice hc8
              obtain ⟨Ad, cd, rfl, _⟩ := own_slice hd8
              have hF : ∀ wx, Below v8.heap.size v8 wx → TabIs wx W.heap.size T r5 L2 ∧ SlR wx v8.heap.size 3 Aa L2.length (enVs L2) ∧ SlR wx v8.heap.size 3 Ac RL.length (enVs RL) ∧ SlR wx v8.heap.size 1 Ad FL.length (intVs FL) ∧ SlR wx v8.heap.size 3 QA L2.length (enVs L2) := fun wx hx =>
                ⟨hT8.below hx, (SlR.own ha8).below hx, (SlR.own hc8).below hx, (SlR.own hd8).below hx, (SlR.own hR8).below hx⟩
              have HF := Lib.hid hF
              clear hB8 hsp HT6 Ha6 Hc6 Hd6 HR6 HB6 hT8 ha8 hc8 hd8 hR8 hF
              have hr8 := Below.refl v8.heap.size v8
              have Hr8 := Lib.hid hr8
              obtain ⟨lp, hlp⟩ : ∃ p, p = (lastE L2 hash).getD (0, 0, 0) := ⟨_, rfl⟩
              obtain ⟨lq, hlq⟩ : ∃ q, q = (lastE L2 hash).isSome := ⟨_, rfl⟩
              have hlT := last_any W.heap.size T r5 L2 hash v8 (HF.out v8 hr8).1 (by omega)
              have hlR := fun wx (hx : Below v8.heap.size v8 wx) => refLast_any QA L2.length Qc v8.heap.size L2 hash wx (HF.out wx hx).2.2.2.2 hx.size (by omega)
              rw [← hlp, ← hlq] at hlT
              simp only [← hlp, ← hlq] at hlR
              obtain ⟨l0, l1, l2⟩ := lp
              unfold enA at hlT hlR
              dsimp only at hlT hlR
              have HlT := Lib.hid hlT; have HlR := Lib.hid hlR
              clear hlT hlR hlp hlq hr8
              go_wp2_with fail
              refine HlT.out.mono ?_
              rintro x v9 ⟨rfl, hb9⟩
              obtain ⟨V9, hV9⟩ : ∃ V, v9.alloc (.cells #[.int .i64 l0, .int .i64 l1, .int .i64 l2] 26) = V := ⟨_, rfl⟩
              have hE9 : BlkIs V9 v9.heap.size 26 #[.int .i64 l0, .int .i64 l1, .int .i64 l2] := by rw [← hV9]; exact BlkIs.new _ _ _
              have hb9' : Below v8.heap.size v8 V9 := by rw [← hV9]; exact hb9.alloc hb9.size _
              have HE9 := Lib.hid hE9; have Hb9 := Lib.hid hb9'
              clear hb9 hE9 hb9' HlT
              go_wp2_with fail
              refine (HlR.out _ (by first | exact Hb9.out | (rw [hV9]; exact Hb9.out))).mono ?_
              rintro x v10 ⟨rfl, hb10⟩
              (try rw [hV9] at hb10)
              obtain ⟨V10, hV10⟩ : ∃ V, v10.alloc (.cells #[.int .i64 l0, .int .i64 l1, .int .i64 l2] 58) = V := ⟨_, rfl⟩
              have hE10 : BlkIs V10 v10.heap.size 58 #[.int .i64 l0, .int .i64 l1, .int .i64 l2] := by rw [← hV10]; exact BlkIs.new _ _ _
              have hbq10 : Below v10.heap.size v10 V10 := by rw [← hV10]; exact (Below.refl _ _).alloc (Nat.le_refl _) _
              have HE9' := Lib.hid ((HE9.out.below hb10 HE9.out.lt).below hbq10 (Nat.lt_of_lt_of_le HE9.out.lt hb10.size))
              have HE10 := Lib.hid hE10
              have Hb10 := Lib.hid ((Hb9.out.trans (hb10.mono Hb9.out.size)).trans (hbq10.mono (Nat.le_trans Hb9.out.size hb10.size)))
              have hcc : ∀ wx, Below V10.heap.size V10 wx → (wx.cell? ⟨v9.heap.size, 0, none⟩ = some (.int .i64 l0) ∧ wx.cell? ⟨v9.heap.size, 1, none⟩ = some (.int .i64 l1) ∧ wx.cell? ⟨v9.heap.size, 2, none⟩ = some (.int .i64 l2)) ∧ (wx.cell? ⟨v10.heap.size, 0, none⟩ = some (.int .i64 l0) ∧ wx.cell? ⟨v10.heap.size, 1, none⟩ = some (.int .i64 l1) ∧ wx.cell? ⟨v10.heap.size, 2, none⟩ = some (.int .i64 l2)) := fun wx hx => by
                have f := (HE9'.out.below hx HE9'.out.lt).cell
                have g := (HE10.out.below hx HE10.out.lt).cell
                exact ⟨⟨f 0, f 1, f 2⟩, g 0, g 1, g 2⟩
              have Hcc := Lib.hid hcc
              clear hb10 hE10 hbq10 hcc HlR
              have hreal := fun wx (hx : Below v8.heap.size v8 wx) => real12_any QA L2.length Qc v8.heap.size L2 wx (HF.out wx hx).2.2.2.2 hx.size (by omega)
              have Hreal := Lib.hid hreal
              clear hreal
              have hqq : (lq != lq) = false := by simp
              have hNe : ∀ w, (binOp .neq 26 (.agg #[.int .i64 l0, .int .i64 l1, .int .i64 l2]) (.agg #[.int .i64 l0, .int .i64 l1, .int .i64 l2])).run Try.prog w = .ok (.bool false) w := fun w => by rw [run_neq_en]; simp
              have hnn9 : ((L2.length : Int) != (L2.length : Int)) = false := by simp
              go_wp2_with fail
              refine (Hreal.out _ (by first | exact Hb10.out | (rw [hV10]; exact Hb10.out))).mono ?_
              rintro x v11 ⟨u11, rfl, ho11, hb11⟩
              (try rw [hV10] at hb11)
              obtain ⟨A11, c11, rfl, _⟩ := own_slice ho11
              have Hb11 := Lib.hid (Hb10.out.trans (hb11.mono Hb10.out.size))
              have Hw11 := Lib.hid hb11
              have hsame := sameEntries_eq v8.heap.size v11.heap.size L2.length ca c11 Aa A11 L2 v11 (HF.out _ Hb11.out).2.1 (SlR.own ho11) (by omega)
              have Hsame := Lib.hid hsame
              clear ho11 hb11 hsame
              go_wp2_with fail
              refine Hsame.out.mono ?_
              rintro x v12 ⟨rfl, k12, rfl⟩
              have Hb12 := Lib.hid (below_drewN Hb11.out k12); have Hw12 := Lib.hid (below_drewN Hw11.out k12)
              obtain ⟨v12, hv12⟩ : ∃ v, v11.drewN k12 = v := ⟨_, rfl⟩
              rw [hv12] at Hb12 Hw12 ⊢
              clear hv12 Hb11 Hw11 Hsame
              have hrr := refRange_any QA L2.length Qc v8.heap.size L2 hash from_ to_ v12 (HF.out _ Hb12.out).2.2.2.2 Hb12.out.size (by omega)
              rw [HRL.out] at hrr
              have Hrr := Lib.hid hrr
              clear hrr
              go_wp2_with fail
              refine Hrr.out.mono ?_
              rintro x v13 ⟨u13, rfl, ho13, hb13⟩
              obtain ⟨A13, c13, rfl, _⟩ := own_slice ho13
              have Hb13 := Lib.hid (Hb12.out.trans (hb13.mono Hb12.out.size)); have Hw13 := Lib.hid (Hw12.out.trans (hb13.mono Hw12.out.size))
              have hre := real12_any A13 RL.length c13 v13.heap.size RL v13 (SlR.own ho13) (Nat.le_refl _) (by omega)
              have Hre := Lib.hid hre
              clear ho13 hb13 hre Hb12 Hw12 Hrr
              go_wp2_with fail
              refine Hre.out.mono ?_
              rintro x v14 ⟨u14, rfl, ho14, hb14⟩
              obtain ⟨A14, c14, rfl, _⟩ := own_slice ho14
              have Hb14 := Lib.hid (Hb13.out.trans (hb14.mono Hb13.out.size)); have Hw14 := Lib.hid (Hw13.out.trans (hb14.mono Hw13.out.size))
              have hsame := sameEntries_eq v8.heap.size v14.heap.size RL.length cc c14 Ac A14 RL v14 (HF.out _ Hb14.out).2.2.1 (SlR.own ho14) (by omega)
              have Hsame := Lib.hid hsame
              clear ho14 hb14 hsame Hb13 Hw13 Hre
              go_wp2_with fail
              refine Hsame.out.mono ?_
              rintro x v15 ⟨rfl, k15, rfl⟩
              have Hb15 := Lib.hid (below_drewN Hb14.out k15); have Hw15 := Lib.hid (below_drewN Hw14.out k15)
              obtain ⟨v15, hv15⟩ : ∃ v, v14.drewN k15 = v := ⟨_, rfl⟩
              rw [hv15] at Hb15 Hw15 ⊢
              clear hv15 Hb14 Hw14 Hsame
              have hrf := refFind_any QA L2.length Qc v8.heap.size L2 hash from_ v15 (HF.out _ Hb15.out).2.2.2.2 Hb15.out.size (by omega)
              rw [HFL.out] at hrf
              have Hrf := Lib.hid hrf
              clear hrf
              go_wp2_with fail
              refine Hrf.out.mono ?_
              rintro x v16 ⟨u16, rfl, ho16, hb16⟩
              obtain ⟨A16, c16, rfl, _⟩ := own_slice ho16
              have Hb16 := Lib.hid (Hb15.out.trans (hb16.mono Hb15.out.size)); have Hw16 := Lib.hid (Hw15.out.trans (hb16.mono Hw15.out.size))
              have hsi := sameInts_any v8.heap.size v16.heap.size FL.length FL.length cd c16 Ad A16 FL FL v16 (HF.out _ Hb16.out).2.2.2.1 (SlR.own ho16) (by omega) (by omega)
              rw [decide_eq_true rfl] at hsi
              have Hsi := Lib.hid hsi
              clear ho16 hb16 hsi Hb15 Hw15 Hrf
              go_wp2_with fail
              refine Hsi.out.mono ?_
              rintro x v20 ⟨rfl, k17, rfl⟩
              have Hb20 := Lib.hid (below_drewN Hb16.out k17); have Hw20 := Lib.hid (below_drewN Hw16.out k17)
              obtain ⟨v20, hv20⟩ : ∃ v, v16.drewN k17 = v := ⟨_, rfl⟩
              rw [hv20] at Hb20 Hw20 ⊢
              clear hv20 Hb16 Hw16 Hsi
              obtain ⟨⟨f0, f1, f2⟩, g0, g1, g2⟩ := Hcc.out _ Hw20.out
              have hlc := len_any W.heap.size T r5 L2 v20 (HF.out _ Hb20.out).1 (by omega)
              have Hlc := Lib.hid hlc
              clear hlc
              go_wp2_with fail
              refine Hlc.out.mono ?_
              rintro x v21 ⟨rfl, rfl⟩
              have HPf0 := HPL.out.under Hb20.out
              have HPf : Hid (PlayAt W v20 G T r5 L2 (.slice QA L2.length Qc) (k + 1) (2 * (k + 1))) := Lib.hid ⟨HPf0.tab, HPf0.lo, HPf0.sorted, HPf0.ref, HPf0.book.more (Nat.le_refl _) (by omega)⟩
              clear f0 f1 f2 g0 g1 g2 Hcc HPf0
              go_wp2_with fail
              go_roundw
              case rel => exact ⟨k + 1, r5, L2, _, rfl, by omega, by go_num, hL2k, HPf⟩
              case measure => simp [intOf]; omega
    · obtain rfl : k = n0 := by omega
      have hdk : decide ((k : Int) < (k : Int)) = false := by simp
      go_wp2_with fail
      refine (alive12_any _).mono ?_
      rintro x w7 ⟨rfl, hb7⟩
      have HP7 := Lib.hid (HP.out.under hb7)
      clear hb7
      go_wp2_with fail
      refine (bookIE_apart W w7 W.heap.size G (G + 1) k (2 * k) _ _ HP7.out.book (by omega) (by omega)).mono ?_
      rintro x w8 ⟨rfl, hb8⟩
      go_wp2_with fail
      go_ret
      exact ⟨rfl, hb8⟩
end Go.Proofs.Ytgaeoglhammjiaa
