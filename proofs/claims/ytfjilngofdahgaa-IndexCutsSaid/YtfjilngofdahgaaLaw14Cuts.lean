/- chapter 14: IndexCuts, walked. -/
import Derived.Test.YtfjilngofdahgaaIxDuo
import Derived.Test.YtfjilngofdahgaaEnBook
import Derived.IntWalk
namespace Go.Proofs.Ytfjilngofdahgaa
open Go.RowKit
set_option maxHeartbeats 4000000
set_option maxRecDepth 100000
set_option linter.unusedVariables false

theorem indexCuts_any (A1 : Option Addr) (n1 c1 : Nat) (ps : List En) (room pos hash : Int) (W : World) (h1 : SlR W W.heap.size 3 A1 n1 (enVs ps)) (hm1 : n1 ≤ 9223372036854775807) :
    Calls Try.prog 5 #[.slice A1 n1 c1, .int .i64 room, .int .i64 pos, .int .i64 hash] W fun e w' => e = .returned (.bool true) ∧ Below W.heap.size W w' := by
  by_cases g1 : 50 < n1
  · clear h1
    go_enter Try.func5, Try.ntmps5
    go_wp2_with fail
    refine (alive14_any _).mono ?_
    rintro e w1 ⟨rfl, hb1⟩
    go_wp2_with fail
    go_ret
    exact ⟨rfl, hb1⟩
  have g1 := Nat.not_lt.1 g1
  have hl1 : ps.length = n1 := by have := h1.len; rw [enVs_length] at this; omega
  have hle : (addsE [] ps).length ≤ 50 := by have := (adds_le [] ps).2; simp only [List.length_nil, Nat.zero_add] at this; omega
  have hA : 0 < n1 → ∀ ad, A1 = some ad → ad.block < W.heap.size := fun h0 ad e => by
    obtain ⟨ad2, e2, hlt2, _⟩ := h1.cells h0
    rw [e] at e2; injection e2 with e2; subst e2
    exact hlt2
  have H1 := Lib.hid h1; have HA := Lib.hid hA; have Hl1 := Lib.hid hl1
  obtain ⟨L, hL⟩ : ∃ L, addsE [] ps = L := ⟨_, rfl⟩
  rw [hL] at hle
  have HL := Lib.hid hL
  clear h1 hl1 hA hL
  go_enter Try.func5, Try.ntmps5
  go_wp2_with fail
  refine (newX_any _ _ _).mono ?_
  rintro e w1 ⟨g, S, rfl, q1, hi1, hb1, hs1⟩
  rw [show max (3:Int) 2 = 3 from rfl] at hi1
  obtain ⟨ro, hro⟩ : ∃ ro, max room 1 = ro := ⟨_, rfl⟩
  rw [hro] at hi1
  have I1 := Lib.hid hi1; have B1 := Lib.hid hb1; have S1 := Lib.hid hs1
  clear hi1 hb1 hs1 hro q1
  go_wp2_with fail
  refine (new_any w1).mono ?_
  rintro e w2 ⟨rfl, ht2, hb2⟩
  have hD : DuoX W w2 g ro 3 ([], []) w1.heap.size none [] S := ⟨I1.out.below hb2, ht2 0, B1.out.trans (hb2.mono B1.out.size), S1.out, fun h => by
    obtain ⟨T', r', v, vs, hx⟩ := I1.out
    exact Nat.lt_irrefl _ (hx.lt _ h), fun b h => by (cases h), B1.out.size, fun b h => by (cases h)⟩
  have D2 := Lib.hid hD
  generalize w1.heap.size = T at D2 ⊢
  clear hD ht2 hb2
  have hadd := addX_any S g ro 3 ([], []) A1 n1 c1 ps w2 D2.out.ix List.Pairwise.nil (by simp [wX]; omega) (by omega) ((H1.out.below D2.out.bel).more D2.out.bel.size) (fun h0 ad e hS => by have h2 := HA.out h0 ad e; have h3 := D2.out.lo _ hS; omega)
  have hw5 := adds_w ro 3 (by omega) ([], []) ps
  rw [Hl1.out] at hw5
  have hw0 : wX (([], []) : Tb × List Lv) = 0 := rfl
  have hall5 := adds_all0 ro 3 ps
  rw [HL.out] at hall5
  have hti := tidy_adds ro 3 tidy_none ps
  obtain ⟨s5, hs5⟩ : ∃ s5, addsX ro 3 ([], []) ps = s5 := ⟨_, rfl⟩
  rw [hs5] at hadd hw5 hall5 hti
  have Hadd := Lib.hid hadd; have Hall := Lib.hid hall5; have Hti := Lib.hid hti
  clear hadd hs5 hall5 hti
  go_wp2_with fail
  refine Hadd.out.mono ?_
  rintro e w3 ⟨rfl, hst⟩
  obtain ⟨S3, hD⟩ := D2.out.step hst
  have D3 := Lib.hid hD
  have hadd := add_any 0 T none [] ps A1 n1 c1 w3 D3.out.tab List.Pairwise.nil ((H1.out.below D3.out.bel).more D3.out.bel.size) (fun h0 ad e => ⟨by have h2 := HA.out h0 ad e; have h3 := D3.out.loT; omega, by simp⟩) (Nat.zero_le _) (by simp; omega)
  rw [HL.out] at hadd
  have Hadd2 := Lib.hid hadd
  clear hD hst hadd
  go_wp2_with fail
  refine Hadd2.out.mono ?_
  rintro e w4 ⟨rfl, r, ht4, hst4⟩
  have D4 := Lib.hid (D3.out.tabStep ht4 hst4)
  have hcx := cutX_any S3 g ro 3 s5 pos w4 D4.out.ix (by omega)
  have hci := cutI_all Hti.out pos
  rw [Hall.out] at hci
  have hga := gone_again Hti.out pos
  have hwc := wX_cut pos s5
  obtain ⟨G, hG⟩ : ∃ G, goneI pos s5 = G := ⟨_, rfl⟩
  obtain ⟨s6, hs6⟩ : ∃ s6, cutI pos s5 = s6 := ⟨_, rfl⟩
  obtain ⟨LC, hLC⟩ : ∃ LC, cutE L pos = LC := ⟨_, rfl⟩
  rw [hG, hs6] at hcx
  rw [hG, hs6, hLC] at hci
  rw [hs6] at hga hwc
  have hlc : LC.length ≤ 50 := by omega
  have hGi : (L.length : Int) - (LC.length : Int) = (G : Int) := by omega
  have Hcx := Lib.hid hcx; have Hci := Lib.hid hci.1; have Hga := Lib.hid hga; have HLC := Lib.hid hLC; have HGi := Lib.hid hGi
  clear hcx hci hga hG hs6 hLC hGi ht4 hst4
  go_wp2_with fail
  refine Hcx.out.mono ?_
  rintro e w5 ⟨rfl, hst⟩
  obtain ⟨S5, hD⟩ := D4.out.step hst
  have D5 := Lib.hid hD
  have hcut := cut_any 0 T r L pos w5 D5.out.tab (Nat.zero_le _) (by omega)
  rw [HLC.out, HGi.out] at hcut
  have Hcut := Lib.hid hcut
  clear hD hst hcut
  go_wp2_with fail
  refine Hcut.out.mono ?_
  rintro e w6 ⟨rfl, ht6, hst6⟩
  have D6 := Lib.hid (D5.out.tabStep ht6 hst6)
  clear ht6 hst6
  have hGG : ((G : Int) == (G : Int)) = true := by simp
  go_wp2_with fail
  refine (alive14_any _).mono ?_
  rintro e w7 ⟨rfl, hb7⟩
  have D7 := Lib.hid (D6.out.under hb7)
  clear hb7
  have hlen := lenX_any S5 g ro 3 s6 w7 D7.out.ix (by omega)
  rw [Hci.out] at hlen
  have Hlen := Lib.hid hlen
  clear hlen
  go_wp2_with fail
  refine Hlen.out.mono ?_
  rintro e w8 ⟨rfl, hb8⟩
  have D8 := Lib.hid (D7.out.under hb8)
  clear hb8
  go_wp2_with fail
  refine (len_any 0 T r LC w8 D8.out.tab (by omega)).mono ?_
  rintro e w8' ⟨rfl, rfl⟩
  have hLL : ((LC.length : Int) == (LC.length : Int)) = true := by simp
  have hrg := rangeX_any S5 g ro 3 s6 hash 0 4611686018427387904 w8 D8.out.ix (by omega)
  rw [Hci.out] at hrg
  have Hrg := Lib.hid hrg
  clear hrg
  go_wp2_with fail
  refine Hrg.out.mono ?_
  rintro e w9 ⟨u1, rfl, ho1, hb9⟩
  obtain ⟨A3, d3, rfl, hn3⟩ := own_slice ho1
  have D9 := Lib.hid (D8.out.under hb9); have O1 := Lib.hid (SlR.own ho1)
  clear ho1 hb9
  go_wp2_with fail
  refine (range_any 0 T r LC hash 0 4611686018427387904 _ D9.out.tab (by omega)).mono ?_
  rintro e w10 ⟨u2, rfl, ho2, hb10⟩
  obtain ⟨A4, d4, rfl, hn4⟩ := own_slice ho2
  have D10 := Lib.hid (D9.out.under hb10); have O2 := Lib.hid (SlR.own ho2); have O1' := Lib.hid (O1.out.below hb10)
  clear ho2 hb10
  have hrl : (rangeE LC hash 0 4611686018427387904).length ≤ 50 := Nat.le_trans (range_le LC hash _ _) hlc
  have hse := sameEntries_eq _ _ _ d3 d4 A3 A4 (rangeE LC hash 0 4611686018427387904) w10 O1'.out O2.out (by omega)
  have HSE := Lib.hid hse
  clear hse
  go_wp2_with fail
  refine HSE.out.mono ?_
  rintro e w11 ⟨rfl, m11, rfl⟩
  have D11 := Lib.hid (D10.out.under (below_drewN (Below.refl _ _) m11))
  generalize w10.drewN m11 = w11 at D11 ⊢
  have hcx := cutX_any S5 g ro 3 s6 pos w11 D11.out.ix (by omega)
  rw [Hga.out] at hcx
  have Hcx2 := Lib.hid hcx
  clear hcx
  go_wp2_with fail
  refine Hcx2.out.mono ?_
  rintro e w12 ⟨rfl, hst⟩
  obtain ⟨S12, hD⟩ := D11.out.step hst
  have D12 := Lib.hid hD.bel
  clear hD hst
  go_wp2_with fail
  go_ret
  exact ⟨rfl, D12.out⟩
end Go.Proofs.Ytfjilngofdahgaa
