/- chapter 14: IndexSaves, walked. -/
import Derived.Test.YtfjilngofdahgaaCIndexSavesIxLoad
import Derived.Test.YtfjilngofdahgaaJIndexSaves1
import Derived.Test.YtfjilngofdahgaaCIndexSavesEnBook
import Derived.Test.YtfjilngofdahgaaCIndexSavesBookInts

namespace Go.Proofs.Ytfjilngofdahgaa
open Go.RowKit
set_option maxHeartbeats 4000000
set_option maxRecDepth 100000
set_option linter.unusedVariables false

theorem save_trim (s : Tb × List Lv) : saveX (s.1, trimX s.2) = saveX s := by
  have hc : cutsX (trimX s.2) = cutsX s.2 := ((trim_eq s).cuts).symm
  have ht : trimX (trimX s.2) = trimX s.2 := by
    have : trimX (trimX s.2) = (trimX s.2).take (cutsX (trimX s.2)).length := rfl
    rw [this, hc]
    exact List.take_of_length_le (Nat.le_of_eq (trim_len s.2))
  have h1 : bigX (s.1, trimX s.2) = bigX s := by unfold bigX; dsimp only; rw [hc]
  have h2 : mayX (s.1, trimX s.2) = mayX s := by unfold mayX; dsimp only; rw [ht]
  have h3 : bodyX (s.1, trimX s.2) = bodyX s := by unfold bodyX; dsimp only; rw [ht, hc]
  unfold saveX
  rw [h1, h2, h3]
theorem load_saved {s : Tb × List Lv} (ht : TidyX s) (hne : NeX s) (hw : wX s ≤ 2000) (h0 : (saveX s).2 = 0) : loadL (saveX s).1 = (some (s.1, trimX s.2), 0) ∧ (saveX s).1.length ≤ 24 * wX s + 29 := by
  have hbl := bodyX_len s
  cases hb : bigX s with
  | true => rw [save_big hb] at h0; cases h0
  | false =>
    cases hm : mayX s with
    | false => rw [save_no hb hm] at h0; cases h0
    | true =>
      have hs := save_yes hb hm
      have hop : openL (sum4 (bodyX s) ++ bodyX s) = (bodyX s, 0) := openL_seal _
      rw [hs]
      refine ⟨load_some (by rw [hop]) (by rw [hop]; exact read_body ht hne hb hm hw) (by rw [save_trim, hs]), ?_⟩
      dsimp only
      rw [List.length_append, sum4_length]
      omega

/-- two indexes that a law made, apart from each other -/
structure DuoY (W w : World) (g g' : Nat) (room most : Int) (s s' : Tb × List Lv) (S S' : Nat → Prop) : Prop where
  ix : IxIs w S g room most s
  iy : IxIs w S' g' room most s'
  bel : Below W.heap.size W w
  lo : ∀ b, S b → W.heap.size ≤ b
  lo' : ∀ b, S' b → W.heap.size ≤ b
  dis : ∀ b, S b → ¬ S' b
theorem IxIs.lt {w : World} {S : Nat → Prop} {g : Nat} {room most : Int} {s : Tb × List Lv} (h : IxIs w S g room most s) : ∀ b, S b → b < w.heap.size := by obtain ⟨T, r, v, vs, hx⟩ := h; exact hx.lt
section
variable {W w w' : World} {g g' : Nat} {room most : Int} {s s' t : Tb × List Lv} {S S' : Nat → Prop}
theorem DuoY.under (h : DuoY W w g g' room most s s' S S') (hb : Below w.heap.size w w') : DuoY W w' g g' room most s s' S S' :=
  ⟨h.ix.below hb, h.iy.below hb, h.bel.trans (hb.mono h.bel.size), h.lo, h.lo', h.dis⟩
theorem DuoY.swap (h : DuoY W w g g' room most s s' S S') : DuoY W w g' g room most s' s S' S :=
  ⟨h.iy, h.ix, h.bel, h.lo', h.lo, fun b h1 h2 => h.dis b h2 h1⟩
theorem DuoY.step (h : DuoY W w g g' room most s s' S S') (hs : IxStep S g room most w w' t) : ∃ S1, DuoY W w' g g' room most t s' S1 S' := by
  obtain ⟨S1, h1, h2, h3⟩ := hs
  refine ⟨S1, h1, h.iy.chg h2 (fun b hb e => h.dis b e hb), h.bel.trans (h2.below h.lo h.bel.size), fun b hb => ?_, h.lo', fun b hb hb' => ?_⟩
  · rcases h3 b hb with hb | hb
    · exact h.lo b hb
    · exact Nat.le_trans h.bel.size hb
  · rcases h3 b hb with hb | hb
    · exact h.dis b hb hb'
    · have := h.iy.lt b hb'; omega
end

theorem indexSaves_any (A1 : Option Addr) (n1 c1 : Nat) (ps : List En) (A2 : Option Addr) (n2 c2 : Nat) (qs : List En) (room most hash : Int) (W : World) (h1 : SlR W W.heap.size 3 A1 n1 (enVs ps)) (h2 : SlR W W.heap.size 3 A2 n2 (enVs qs)) (hm1 : n1 ≤ 9223372036854775807) (hm2 : n2 ≤ 9223372036854775807) :
    Calls Try.prog 7 #[.slice A1 n1 c1, .slice A2 n2 c2, .int .i64 room, .int .i64 most, .int .i64 hash] W fun e w' => e = .returned (.bool true) ∧ Below W.heap.size W w' := by
  by_cases g1 : 40 < n1
  · clear h1 h2
    go_enter Try.func7, Try.ntmps7
    go_wp2_with fail
    refine (alive14_any _).mono ?_
    rintro e w1 ⟨rfl, hb1⟩
    go_wp2_with fail
    go_ret
    exact ⟨rfl, hb1⟩
  by_cases g2 : 40 < n2
  · clear h1 h2
    go_enter Try.func7, Try.ntmps7
    go_wp2_with fail
    refine (alive14_any _).mono ?_
    rintro e w1 ⟨rfl, hb1⟩
    go_wp2_with fail
    go_ret
    exact ⟨rfl, hb1⟩
  have g1 := Nat.not_lt.1 g1
  have g2 := Nat.not_lt.1 g2
  have hl1 : ps.length = n1 := by have := h1.len; rw [enVs_length] at this; omega
  have hl2 : qs.length = n2 := by have := h2.len; rw [enVs_length] at this; omega
  have hA : 0 < n1 → ∀ ad, A1 = some ad → ad.block < W.heap.size := fun h0 ad e => by
    obtain ⟨ad2, e2, hlt2, _⟩ := h1.cells h0
    rw [e] at e2; injection e2 with e2; subst e2
    exact hlt2
  have hA2 : 0 < n2 → ∀ ad, A2 = some ad → ad.block < W.heap.size := fun h0 ad e => by
    obtain ⟨ad2, e2, hlt2, _⟩ := h2.cells h0
    rw [e] at e2; injection e2 with e2; subst e2
    exact hlt2
  obtain ⟨ro, hro⟩ : ∃ ro, max room 1 = ro := ⟨_, rfl⟩
  obtain ⟨mo, hmo⟩ : ∃ mo, max most 2 = mo := ⟨_, rfl⟩
  have hmo2 : 2 ≤ mo := by omega
  have hw5 := adds_w ro mo hmo2 ([], []) ps
  rw [hl1] at hw5
  have hw0 : wX (([], []) : Tb × List Lv) = 0 := rfl
  have hti := tidy_adds ro mo tidy_none ps
  have hne := ne_adds (room := ro) ne_none tidy_none hmo2 ps
  obtain ⟨s, hs⟩ : ∃ s, addsX ro mo ([], []) ps = s := ⟨_, rfl⟩
  rw [hs] at hw5 hti hne
  have H1 := Lib.hid h1; have H2 := Lib.hid h2; have HA := Lib.hid hA; have HA2 := Lib.hid hA2; have Hl2 := Lib.hid hl2; have HRo := Lib.hid hro; have HMo := Lib.hid hmo; have Hti := Lib.hid hti; have Hne := Lib.hid hne; have Hs := Lib.hid hs
  clear h1 h2 hl1 hl2 hA hA2 hro hmo hti hne hs
  go_enter Try.func7, Try.ntmps7
  go_wp2_with fail
  refine (newX_any _ _ _).mono ?_
  rintro e w1 ⟨g, S, rfl, q1, hi1, hb1, hs1⟩
  rw [HRo.out, HMo.out] at hi1
  have hadd := addX_any S g ro mo ([], []) A1 n1 c1 ps w1 hi1 List.Pairwise.nil (by simp [wX]; omega) hmo2 ((H1.out.below hb1).more hb1.size) (fun h0 ad e hS => by have h2 := HA.out h0 ad e; have h3 := hs1 _ hS; omega)
  rw [Hs.out] at hadd
  have Hadd := Lib.hid hadd; have B1 := Lib.hid hb1; have S1 := Lib.hid hs1
  clear hadd hi1 hb1 hs1 q1
  go_wp2_with fail
  refine Hadd.out.mono ?_
  rintro e w2 ⟨rfl, S2, hi2, hc2, hs2⟩
  have B2 := Lib.hid (B1.out.trans (hc2.below S1.out B1.out.size))
  have I2 := Lib.hid hi2
  have L2 : Hid (∀ b, S2 b → W.heap.size ≤ b) := Lib.hid (fun b hb => by
    rcases hs2 b hb with h | h
    · exact S1.out b h
    · exact Nat.le_trans B1.out.size h)
  have hsv := saveX_any S2 g ro mo s w2 hi2 (by omega)
  obtain ⟨bs, hbs⟩ : ∃ bs, (saveX s).1 = bs := ⟨_, rfl⟩
  obtain ⟨E, hE⟩ : ∃ E, (saveX s).2 = E := ⟨_, rfl⟩
  obtain ⟨sv, hsvn⟩ : ∃ sv : ByteArray, (⟨bs.toArray⟩ : ByteArray) = sv := ⟨_, rfl⟩
  have hsvl : sv.data.toList = bs := by rw [← hsvn]
  rw [hbs, hE, hsvn] at hsv
  have Hsv := Lib.hid hsv
  by_cases hE0 : E = 0
  · obtain ⟨hld, hln⟩ := load_saved Hti.out Hne.out (by omega) (hE.trans hE0)
    rw [hbs] at hld hln
    have hlo := fun w => loadX_any sv room most w (by rw [size_list, hsvl]; omega)
    rw [hsvl, hld, HRo.out, HMo.out] at hlo
    dsimp only at hlo
    subst hE0
    have Hlo := Lib.hid hlo
    clear hsv hi2 hc2 hs2 hbs hE hsvn hsvl hld hln hlo
    go_wp2_with fail
    refine Hsv.out.mono ?_
    rintro e w3 ⟨rfl, hb3⟩
    have B3 := Lib.hid (B2.out.trans (hb3.mono B2.out.size)); have I3 := Lib.hid (I2.out.below hb3)
    clear hb3
    go_wp2_with fail
    refine (Hlo.out w3).mono ?_
    rintro e w4 ⟨p, rfl, hb4, _, hp⟩
    obtain ⟨hws, gy, S', rfl, hi4, hs4⟩ := hp _ rfl
    have hD : DuoY W w4 g gy ro mo s (s.1, trimX s.2) S2 S' := ⟨I3.out.below hb4, hi4, B3.out.trans (hb4.mono B3.out.size), L2.out, fun b hb => Nat.le_trans B3.out.size (hs4 b hb), fun b hb hb' => by
      have := I3.out.lt b hb
      have := hs4 b hb'
      omega⟩
    have D4 := Lib.hid hD
    have heq := trim_eq s
    obtain ⟨s', hs'⟩ : ∃ s', (s.1, trimX s.2) = s' := ⟨_, rfl⟩
    rw [hs'] at D4 heq hws
    have hqa := heq.adds (room := ro) hmo2 qs
    have hwx := adds_w ro mo hmo2 s qs
    have hwy := adds_w ro mo hmo2 s' qs
    rw [Hl2.out] at hwx hwy
    have hsx : SortedE s.1 := Hti.out.srt
    have hsy : SortedE s'.1 := by rw [← heq.1]; exact hsx
    obtain ⟨N, hN⟩ : ∃ N, cntsX ro mo s qs = N := ⟨_, rfl⟩
    obtain ⟨x, hx⟩ : ∃ x, addsX ro mo s qs = x := ⟨_, rfl⟩
    obtain ⟨y, hy⟩ : ∃ y, addsX ro mo s' qs = y := ⟨_, rfl⟩
    rw [hN, hx, hy] at hqa
    have hadx := addX_any S2 g ro mo s A2 n2 c2 qs w4 D4.out.ix hsx (by omega) hmo2 ((H2.out.below D4.out.bel).more D4.out.bel.size) (fun h0 ad e hS => by have h2 := HA2.out h0 ad e; have h3 := D4.out.lo _ hS; omega)
    rw [hN, hx] at hadx
    rw [hx] at hwx
    rw [hy] at hwy
    have Hadx := Lib.hid hadx; have HQ := Lib.hid hqa; have Hsy := Lib.hid hsy; have Hy := Lib.hid hy
    clear hD hp hb4 hi4 hs4 heq hs' hqa hsx hsy hN hx hy hadx
    go_wp2_with fail
    refine Hadx.out.mono ?_
    rintro e w5 ⟨rfl, hst⟩
    obtain ⟨S5, hD⟩ := D4.out.step hst
    have D5 := Lib.hid hD
    have hady := addX_any S' gy ro mo s' A2 n2 c2 qs w5 hD.iy Hsy.out (by omega) hmo2 ((H2.out.below hD.bel).more hD.bel.size) (fun h0 ad e hS => by have h2 := HA2.out h0 ad e; have h3 := hD.lo' _ hS; omega)
    rw [← HQ.out.2, Hy.out] at hady
    have Hady := Lib.hid hady
    clear hD hst hady
    go_wp2_with fail
    refine Hady.out.mono ?_
    rintro e w6 ⟨rfl, hst⟩
    obtain ⟨S6, hD⟩ := D5.out.swap.step hst
    have D6 := Lib.hid hD.swap
    have dN : ((N : Int) != (N : Int)) = false := by simp
    clear hD hst
    obtain ⟨LL, hLL⟩ : ∃ LL, allX x.1 x.2 = LL := ⟨_, rfl⟩
    have hLy : allX y.1 y.2 = LL := by rw [← hLL]; exact (HQ.out.1.all).symm
    obtain ⟨cs, hcs⟩ : ∃ cs, cutsX x.2 = cs := ⟨_, rfl⟩
    have hcy : cutsX y.2 = cs := by rw [← hcs]; exact (HQ.out.1.cuts).symm
    obtain ⟨M, hM⟩ : ∃ M, x.1.length = M := ⟨_, rfl⟩
    have hMy : y.1.length = M := by rw [← hM, HQ.out.1.1]
    have hLf : LL.length ≤ 1000000 := by rw [← hLL]; exact Nat.le_trans (allX_few x (by omega)) (by omega)
    have hcf : cs.length ≤ 1000000 := by rw [← hcs]; have h1 := cuts_le x.2; have h2 := flats_len x.2; rw [wX_eq] at hwx; omega
    have HLL := Lib.hid hLL; have HLy := Lib.hid hLy; have Hcs := Lib.hid hcs; have Hcy := Lib.hid hcy; have HM := Lib.hid hM; have HMy := Lib.hid hMy
    clear hLL hLy hcs hcy hM hMy
    go_wp2_with fail
    refine (alive14_any _).mono ?_
    rintro e w7 ⟨rfl, hb7⟩
    have D7 := Lib.hid (D6.out.under hb7)
    clear hb7
    have hlx := lenX_any _ g ro mo x w7 D7.out.ix (by omega)
    rw [HLL.out] at hlx
    have Hlx := Lib.hid hlx
    clear hlx
    go_wp2_with fail
    refine Hlx.out.mono ?_
    rintro e w8 ⟨rfl, hb8⟩
    have D8 := Lib.hid (D7.out.under hb8)
    clear hb8
    have hly := lenX_any _ gy ro mo y w8 D8.out.iy (by omega)
    rw [HLy.out] at hly
    have Hly := Lib.hid hly
    clear hly
    go_wp2_with fail
    refine Hly.out.mono ?_
    rintro e w9 ⟨rfl, hb9⟩
    have D9 := Lib.hid (D8.out.under hb9)
    have dL : ((LL.length : Int) == (LL.length : Int)) = true := by simp
    clear hb9
    have hmx := memX_any _ g ro mo x w9 D9.out.ix (by omega)
    have hmy := memX_any _ gy ro mo y w9 D9.out.iy (by omega)
    rw [HM.out] at hmx
    rw [HMy.out] at hmy
    have dM : ((M : Int) == (M : Int)) = true := by simp
    have Hmx := Lib.hid hmx; have Hmy := Lib.hid hmy
    clear hmx hmy
    go_wp2_with fail
    refine Hmx.out.mono ?_
    rintro e w9' ⟨rfl, rfl⟩
    go_wp2_with fail
    refine Hmy.out.mono ?_
    rintro e w9' ⟨rfl, rfl⟩
    have hvx := levelsX_any _ g ro mo x w9 D9.out.ix (by omega)
    rw [Hcs.out] at hvx
    have Hvx := Lib.hid hvx
    clear hvx
    go_wp2_with fail
    refine Hvx.out.mono ?_
    rintro e w10 ⟨u1, rfl, ho1, hb10⟩
    obtain ⟨A3, d3, rfl, hn3⟩ := own_slice ho1
    have D10 := Lib.hid (D9.out.under hb10); have O1 := Lib.hid (SlR.own ho1)
    clear ho1 hb10
    have hvy := levelsX_any _ gy ro mo y w10 D10.out.iy (by omega)
    rw [Hcy.out] at hvy
    have Hvy := Lib.hid hvy
    clear hvy
    go_wp2_with fail
    refine Hvy.out.mono ?_
    rintro e w11 ⟨u2, rfl, ho2, hb11⟩
    obtain ⟨A4, d4, rfl, hn4⟩ := own_slice ho2
    have D11 := Lib.hid (D10.out.under hb11); have O2 := Lib.hid (SlR.own ho2); have O1' := Lib.hid (O1.out.below hb11)
    clear ho2 hb11
    have hsi := sameInts_any _ _ _ _ d3 d4 A3 A4 _ _ w11 O1'.out O2.out (by omega) (by omega)
    have hdd : decide (cs = cs) = true := decide_eq_true rfl
    rw [hdd] at hsi
    have HSI := Lib.hid hsi
    clear hsi
    go_wp2_with fail
    refine HSI.out.mono ?_
    rintro e w12 ⟨rfl, m12, rfl⟩
    have D12 := Lib.hid (D11.out.under (below_drewN (Below.refl _ _) m12))
    generalize w11.drewN m12 = w12 at D12 ⊢
    have hrx := rangeX_any _ g ro mo x hash 0 4611686018427387904 w12 D12.out.ix (by omega)
    rw [HLL.out] at hrx
    have Hrx := Lib.hid hrx
    clear hrx
    go_wp2_with fail
    refine Hrx.out.mono ?_
    rintro e w13 ⟨u3, rfl, ho3, hb13⟩
    obtain ⟨A5, d5, rfl, hn5⟩ := own_slice ho3
    have D13 := Lib.hid (D12.out.under hb13); have O3 := Lib.hid (SlR.own ho3)
    clear ho3 hb13
    have hry := rangeX_any _ gy ro mo y hash 0 4611686018427387904 w13 D13.out.iy (by omega)
    rw [HLy.out] at hry
    have Hry := Lib.hid hry
    clear hry
    go_wp2_with fail
    refine Hry.out.mono ?_
    rintro e w14 ⟨u4, rfl, ho4, hb14⟩
    obtain ⟨A6, d6, rfl, hn6⟩ := own_slice ho4
    have D14 := Lib.hid (D13.out.under hb14); have O4 := Lib.hid (SlR.own ho4); have O3' := Lib.hid (O3.out.below hb14)
    clear ho4 hb14
    have hrl : (rangeE LL hash 0 4611686018427387904).length ≤ 1000000 := Nat.le_trans (range_le LL hash _ _) hLf
    have hse := sameEntries_eq _ _ _ d5 d6 A5 A6 (rangeE LL hash 0 4611686018427387904) w14 O3'.out O4.out (by omega)
    have HSE := Lib.hid hse
    clear hse
    go_wp2_with fail
    refine HSE.out.mono ?_
    rintro e w15 ⟨rfl, m15, rfl⟩
    have B15 := Lib.hid (below_drewN D14.out.bel m15)
    go_wp2_with fail
    go_ret
    exact ⟨rfl, B15.out⟩
  · have dE : (E != 0) = true := by simpa using hE0
    clear hsv hi2 hc2 hs2 hbs hE hsvn hsvl hE0
    go_wp2_with fail
    refine Hsv.out.mono ?_
    rintro e w3 ⟨rfl, hb3⟩
    have B3 := Lib.hid (B2.out.trans (hb3.mono B2.out.size))
    clear hb3
    go_wp2_with fail
    refine (alive14_any _).mono ?_
    rintro e w7 ⟨rfl, hb7⟩
    have B7 := Lib.hid (B3.out.trans (hb7.mono B3.out.size))
    clear hb7
    go_wp2_with fail
    go_ret
    exact ⟨rfl, B7.out⟩
end Go.Proofs.Ytfjilngofdahgaa
