/- chapter 22: ShipJoins, walked. -/
import Derived.Test.YtnnnilpgnjndlaaShipMark
import Derived.Test.YtnnnilpgnjndlaaLentInts
import Derived.Test.YtnnnilpgnjndlaaSliceStep
import Derived.Test.YtnnnilpgnjndlaaShipLaw2
import Derived.Laws.OwnMore
import Derived.Deep.RegionHeld3
namespace Go.Proofs.Ytnnnilpgnjndlaa
open Go.RowKit
set_option maxHeartbeats 4000000
set_option maxRecDepth 100000
set_option linter.unusedVariables false

theorem intVs_firstJ {w : World} {B n k : Nat} {A : Option Addr} {zs : List Int} (h : SlR w B 1 A n (intVs zs)) (hk : k ≤ n) : SlR w B 1 A k (intVs (zs.take k)) := by
  have := h.first hk
  simpa [intVs, List.map_take] using this

theorem intVs_cutJ {w : World} {B n k cap : Nat} {A : Option Addr} {zs : List Int} (h : SlR w B 1 A n (intVs zs)) (hk : k ≤ n) (hc : n ≤ cap) : SlR w B 1 (if cap = k then A else Option.map (fun x => x.add k) A) (n - k) (intVs (zs.drop k)) := by
  have := h.cut hk hc
  simpa [intVs, List.map_drop] using this

theorem join_lie {w : World} {base K X : Nat} {v : Value} {a b lg : List Int} (h : w.ownsRow base 3 1 v (0 + K + X) ([] ++ intVs a ++ intVs b)) (hl : lg = a ++ b) :
    ∃ A2 c2, v = .slice A2 lg.length c2 ∧ lg.length ≤ c2 ∧ SlR w w.heap.size 1 A2 lg.length (intVs lg) := by
  have e : intVs lg = [] ++ intVs a ++ intVs b := by rw [hl]; simp [intVs]
  have hn : 0 + K + X = lg.length := by have := h.1; rw [← e] at this; simpa [intVs] using this.symm
  rw [← e, hn] at h
  obtain ⟨A2, c2, rfl, hc⟩ := own_slice h
  exact ⟨A2, c2, rfl, hc, SlR.own h⟩

theorem shipJoins_any (A D : Option Addr) (n m cn cm : Nat) (es ms : List Int) (l : Int) (w : World) (ha : SlR w w.heap.size 1 A n (intVs es)) (hb : SlR w w.heap.size 1 D m (intVs ms)) (hnc : n ≤ cn) (hmc : m ≤ cm) (hcn : cn ≤ 9223372036854775807) (hcm : cm ≤ 9223372036854775807) :
    Calls Try.prog 4 #[.slice A n cn, .slice D m cm, .int .i64 l] w fun e w' => e = .returned (.bool true) ∧ Below w.heap.size w w' := by
  by_cases c1 : 40 < n
  · clear ha hb
    go_enter Try.func4, Try.ntmps4
    go_wp2_with fail
    refine (alive22_any _).mono ?_
    rintro e w1 ⟨rfl, hb1⟩
    go_wp2_with fail
    go_ret
    exact ⟨rfl, hb1⟩
  have c1 := Nat.not_lt.1 c1
  by_cases c2 : 20 < m
  · clear ha hb
    go_enter Try.func4, Try.ntmps4
    go_wp2_with fail
    refine (alive22_any _).mono ?_
    rintro e w1 ⟨rfl, hb1⟩
    go_wp2_with fail
    go_ret
    exact ⟨rfl, hb1⟩
  have c2 := Nat.not_lt.1 c2
  by_cases c3 : l < 0
  · clear ha hb
    go_enter Try.func4, Try.ntmps4
    go_wp2_with fail
    refine (alive22_any _).mono ?_
    rintro e w1 ⟨rfl, hb1⟩
    go_wp2_with fail
    go_ret
    exact ⟨rfl, hb1⟩
  have c3 := Int.not_lt.1 c3
  by_cases c4 : (n : Int) < l
  · clear ha hb
    go_enter Try.func4, Try.ntmps4
    go_wp2_with fail
    refine (alive22_any _).mono ?_
    rintro e w1 ⟨rfl, hb1⟩
    go_wp2_with fail
    go_ret
    exact ⟨rfl, hb1⟩
  obtain ⟨L, rfl⟩ : ∃ L : Nat, l = (L : Int) := ⟨l.toNat, by omega⟩
  have hL : L ≤ n := by omega
  obtain ⟨j0, hi0, hz0, hz1, hz2⟩ := info_parts info_intB
  have hle := intVs_len ha
  have hlm := intVs_len hb
  have hj := join_any w.heap.size w.heap.size n m cn cm A D es ms L w ha hb (by omega) (by omega)
  have hjp : joinI es (L : Int) ms = joinP es L ms := by unfold joinI; rw [if_neg (by omega), Int.toNat_natCast]
  have hbd := joinP_bd es L ms (by omega)
  have hlog := logL_long es L ms (by omega)
  have hmo := logL_more es L ms (by omega)
  have hhe := logL_head es L ms (by omega)
  have hag := logL_again es L ms (by omega)
  have hsm := logL_same es L ms (by omega)
  have hlg : logL es L ms = es.take (joinP es L ms).1 ++ ms.drop (ms.length - (joinP es L ms).2) := rfl
  rw [hjp] at hj
  generalize logL es L ms = lg at hlog hmo hhe hag hsm hlg
  generalize joinP es L ms = q at hj hbd hlg hsm
  obtain ⟨K, N⟩ := q
  simp only at hj hbd hlg hsm
  obtain ⟨b1, b2, b3⟩ := hbd
  rw [hle] at b2
  rw [hlm] at b3 hlg hlog
  have d1 : decide (K < L) = false := by simpa using b1
  have d2 : decide (n < K) = false := by simpa using b2
  have d3 : decide (m < N) = false := by simpa using b3
  have d4 : (0 : Int) ≤ (N : Int) := by omega
  have k0 : (0 : Int) ≤ (K : Int) := by omega
  have k1 : (K : Int) ≤ (cn : Int) := by omega
  obtain ⟨MN, hMN⟩ : ∃ MN : Nat, MN = m - N := ⟨_, rfl⟩
  rw [← hMN] at hlg
  have e1 : (m : Int) - (N : Int) = (MN : Int) := by omega
  have k2 : (0 : Int) ≤ (MN : Int) := by omega
  have k3 : (MN : Int) ≤ (m : Int) := by omega
  have k4 : (MN : Int) ≤ (cm : Int) := by omega
  have Ha1 := Lib.hid (intVs_firstJ ha b2)
  have Hbc := Lib.hid (intVs_cutJ (k := MN) hb (by omega) hmc)
  have Hj := Lib.hid hj; have Hlog := Lib.hid hlog; have Hmo := Lib.hid hmo; have Hhe := Lib.hid hhe; have Hag := Lib.hid hag; have Hsm := Lib.hid hsm; have Hlg := Lib.hid hlg; have Ha := Lib.hid ha; have Hb := Lib.hid hb; have Hle := Lib.hid hle; have Hlm := Lib.hid hlm; have HMN := Lib.hid hMN
  clear hj hlog hmo hhe hag hsm hlg ha hb hle hlm hMN hjp c3 c4
  go_enter Try.func4, Try.ntmps4
  go_wp2_with fail
  refine Hj.out.mono ?_
  rintro e w1 ⟨rfl, rfl⟩
  go_wp2_with fail
  have wMN : IntKind.i64.wrap (MN : Int) = (MN : Int) := IntWalk.i64_in _ (by omega)
  have tok1 : True := trivial
  go_region_law (first
    | (have _t := tok1; clear tok1 _t; refine step_append_sl (by rfl) (.const (.slice none 0 0)) (.tmp 61) _ (by rfl) w.heap.size 3 j0 _ 1 8 Try.underlying41 hi0 hz0 hz1 hz2 rfl (by omega) (.slice none 0 0) 0 [] (by simp [Act.eval]) (World.ownsRow_nil _ _ _ _) w.heap.size A K cn (intVs (es.take K)) (by simp [Act.eval, Act.put]) ((Ha1.out).drew) intVs_one (by simp only [maxLen]; omega) (by omega) (by exact Nat.le_refl _) ?_; intro v1 w1 hown1 hg1 hat1; have hb1 : Below w.heap.size w w1 := ((Below.refl _ _).drew).grown hg1 (Nat.le_refl _) (by simp [Value.ownBlock]); have Hown1 := Lib.hid hown1; have Hb1 := Lib.hid hb1; clear hown1 hb1 hg1 hat1)
    | (refine step_append_sl (by rfl) (.tmp 62) (.tmp 68) _ (by rfl) w.heap.size 3 j0 _ 1 8 Try.underlying41 hi0 hz0 hz1 hz2 rfl (by omega) v1 (0 + K) ([] ++ intVs (es.take K)) (by simp [Act.eval, Act.put]) (by first | exact Hown1.out | exact Hown1.out.drew) w.heap.size (if cm = MN then D else Option.map (fun x => x.add MN) D) (m - MN) (cm - MN) (intVs (ms.drop MN)) (by simp [Act.eval, Act.put]) (by have h7 := Hbc.out.below Hb1.out; first | exact h7 | exact h7.drew) intVs_one (by simp only [maxLen]; omega) (by omega) (by exact Hb1.out.size) ?_; intro v2 w2 hown2 hg2 hat2; have hb2 : Below w.heap.size w w2 := (Hb1.out).grown hg2 Hb1.out.size (fun b hb => (Hown1.out.lt b hb).1); obtain ⟨A2, cg, rfl, hc2, hs2⟩ := join_lie hown2 Hlg.out; have Hs2 := Lib.hid hs2; have Hb2 := Lib.hid hb2; clear hown2 hb2 hg2 hat2 hs2 Hown1 Hb1))
  clear Hbc
  generalize (if cm = MN then D else Option.map (fun x => x.add MN) D) = D2
  obtain ⟨G, hG⟩ : ∃ G, G = lg.length := ⟨_, rfl⟩
  rw [← hG] at Hs2 Hlog hc2
  rw [← hG]
  have hlog := Hlog.out
  have gl : (L : Int) + (m : Int) ≤ (G : Int) := by omega
  have Hlg2 := Lib.hid hG
  have hg40 : G ≤ 1000 := by
    have h7 := Hlg.out
    have h8 := congrArg List.length h7
    rw [List.length_append, List.length_take, List.length_drop, Hlm.out, ← hG] at h8
    omega
  clear hG hlog Ha1 wMN
  obtain ⟨B2, hB2⟩ : ∃ B, B = w2.heap.size := ⟨_, rfl⟩
  rw [← hB2] at Hs2
  have HB2 := Lib.hid hB2
  clear hB2
  go_wp2_with fail
  go_loopw [10] (fun i wr => ∃ k q : Nat, k ≤ m ∧ i = .int .i64 k ∧ wr = w2.drewN q) (fun i _ => m - (intOf i).toNat)
  case atStart => exact ⟨0, 0, Nat.zero_le _, rfl, rfl⟩
  case round =>
    obtain ⟨k, q, hk, rfl, rfl⟩ := hrel
    by_cases hlt : k < m
    · obtain ⟨ad, u, hA, had, hu, hcell⟩ := (Hb.out.below Hb2.out).get hlt
      subst hA
      obtain ⟨x, hx, rfl⟩ := intVs_get hu
      obtain ⟨ad2, u2, hA2, had2, hu2, hcell2⟩ := Hs2.out.get (show L + k < G by omega)
      subst hA2
      obtain ⟨y, hy, rfl⟩ := intVs_get hu2
      have hxy : y = x := by have := Hmo.out k (by rw [Hlm.out]; exact hlt); rw [hx, hy] at this; injection this
      subst hxy
      have i1 : (k : Int) < (m : Int) := by omega
      have i0 : 0 ≤ (k : Int) := by omega
      have i2 : (L : Int) + (k : Int) < (G : Int) := by omega
      have i3 : ((L : Int) + (k : Int)).toNat = L + k := by omega
      have i4 : 0 ≤ (L : Int) + (k : Int) := by omega
      have i5 : IntKind.i64.wrap ((L : Int) + (k : Int)) = (L : Int) + (k : Int) := IntWalk.i64_in _ (by omega)
      clear hu hu2 hx hy had had2
      go_wp2_with fail
      go_quiet (fail)
      clear i3 i5
      go_wp2_with fail
      go_roundw
      case rel => exact ⟨k + 1, _, by omega, by go_num, rfl⟩
      case measure => simp [intOf] <;> omega
    · obtain rfl : k = m := by omega
      have hd10 : decide (k < k) = false := by simp
      clear hlt
      go_wp2_with fail
      go_loopw [11] (fun i wr => ∃ j p : Nat, j ≤ L ∧ i = .int .i64 j ∧ wr = w2.drewN p) (fun i _ => L - (intOf i).toNat)
      case atStart => exact ⟨0, q, Nat.zero_le _, rfl, rfl⟩
      case round =>
        obtain ⟨j, p, hj, rfl, rfl⟩ := hrel
        by_cases hlt : j < L
        · obtain ⟨ad, u, hA, had, hu, hcell⟩ := (Ha.out.below Hb2.out).get (show j < n by omega)
          subst hA
          obtain ⟨x, hx, rfl⟩ := intVs_get hu
          obtain ⟨ad2, u2, hA2, had2, hu2, hcell2⟩ := Hs2.out.get (show j < G by omega)
          subst hA2
          obtain ⟨y, hy, rfl⟩ := intVs_get hu2
          have hxy : y = x := by have := Hhe.out j hlt; rw [hx, hy] at this; injection this
          subst hxy
          have i1 : (j : Int) < (n : Int) := by omega
          have i0 : 0 ≤ (j : Int) := by omega
          have i2 : (j : Int) < (G : Int) := by omega
          clear hu hu2 hx hy had had2
          go_wp2_with fail
          go_quiet (fail)
          go_wp2_with fail
          go_roundw
          case rel => exact ⟨j + 1, _, by omega, by go_num, rfl⟩
          case measure => simp [intOf] <;> omega
        · obtain rfl : j = L := by omega
          have hd11 : decide (j < j) = false := by simp
          have hj2 := join_any B2 w.heap.size G k cg cm A2 D lg ms j (w2.drewN p) (Hs2.out.drewN p) ((Hb.out.below Hb2.out).drewN p) (by omega) (by omega)
          have hjp2 : joinI lg (j : Int) ms = (G, 0) := by unfold joinI; rw [if_neg (by have := Hlg2.out; omega), Int.toNat_natCast, Hag.out, Hlg2.out]
          rw [hjp2] at hj2
          have Hj2 := Lib.hid hj2
          have hnb : ((N : Int) == 0) = decide (N = 0) := by rw [Bool.eq_iff_iff]; simp
          have Hnb := Lib.hid hnb
          clear hlt hj2 hjp2 hnb
          go_wp2_with fail
          refine Hj2.out.mono ?_
          rintro e w5 ⟨rfl, rfl⟩
          go_wp2_with fail
          refine (alive22_any _).mono ?_
          rintro e w6 ⟨rfl, hb6⟩
          have hb26 : Below w2.heap.size w2 w6 := below_undrewN hb6
          have Hs6 := Lib.hid (Hs2.out.below (hb26.mono (Nat.le_of_eq HB2.out)))
          have Ha6 := Lib.hid ((Ha.out.below Hb2.out).below (hb26.mono Hb2.out.size))
          have Hb6 := Lib.hid (Hb2.out.trans (hb26.mono Hb2.out.size))
          clear hb6 hb26
          go_wp2_with fail
          refine (sameInts_any B2 w.heap.size G n cg cn A2 A lg es _ Hs6.out Ha6.out (by omega) (by omega)).mono ?_
          rw [Hsm.out]
          rintro e w7 ⟨rfl, q7, rfl⟩
          have hnb := Hnb.out
          by_cases hN0 : N = 0
          · have hdn : decide (N = 0) = true := by simpa using hN0
            rw [hdn] at hnb ⊢
            clear hN0
            go_wp2_with fail
            go_ret
            exact ⟨rfl, below_drewN Hb6.out _⟩
          · have hdn : decide (N = 0) = false := by simpa using hN0
            rw [hdn] at hnb ⊢
            clear hN0
            go_wp2_with fail
            go_ret
            exact ⟨rfl, below_drewN Hb6.out _⟩
end Go.Proofs.Ytnnnilpgnjndlaa
