/- chapter 22: ShipTells, walked. -/
import Derived.Test.YtnnnilpgnjndlaaShipMark
import Derived.Test.YtnnnilpgnjndlaaLentInts
import Derived.Test.YtnnnilpgnjndlaaRefShip
import Derived.Laws.OwnMore
namespace Go.Proofs.Ytnnnilpgnjndlaa
open Go.RowKit
set_option maxHeartbeats 4000000
set_option maxRecDepth 100000
set_option linter.unusedVariables false

/-- what was lent reads as it did -/
theorem lent_sl {w : World} {base g n c : Nat} {ss : List Int} (h : w.ownsRow base 3 1 (.slice (some ⟨g, 0, none⟩) (n + 1) c) (n + 1) (intVs (ss ++ [-77]))) : SlR w w.heap.size 1 (some ⟨g, 0, none⟩) n (intVs ss) := by
  have hl : ss.length = n := by have := h.1; simpa [intVs] using this
  have := own_first h (show n ≤ n + 1 by omega)
  rw [intVs, List.map_append, List.take_left' (by simpa using hl)] at this
  exact this

theorem shipTells_any (A D E : Option Addr) (n m p cn cm cp : Nat) (es ms ts : List Int) (l ep nd tm : Int) (w : World) (ha : SlR w w.heap.size 1 A n (intVs es)) (hb : SlR w w.heap.size 1 D m (intVs ms)) (hc : SlR w w.heap.size 1 E p (intVs ts)) (hnc : n ≤ cn) (hmc : m ≤ cm) (hpc : p ≤ cp)
    (hl : -9223372036854775808 ≤ l ∧ l ≤ 9223372036854775807) (hnd : -9223372036854775808 ≤ nd ∧ nd ≤ 9223372036854775807) (hnn : n ≤ 9223372036854775807) (hmm : m ≤ 9223372036854775807) (hpp : p ≤ 9223372036854775807) :
    Calls Try.prog 7 #[.slice A n cn, .slice D m cm, .slice E p cp, .int .i64 l, .int .i64 ep, .int .i64 nd, .int .i64 tm] w fun e w' => e = .returned (.bool true) ∧ Below w.heap.size w w' := by
  by_cases c1 : 40 < n
  · clear ha hb hc
    go_enter Try.func7, Try.ntmps7
    go_wp2_with fail
    refine (alive22_any _).mono ?_
    rintro e w1 ⟨rfl, hb1⟩
    go_wp2_with fail
    go_ret
    exact ⟨rfl, hb1⟩
  have c1 := Nat.not_lt.1 c1
  by_cases c1 : 20 < m
  · clear ha hb hc
    go_enter Try.func7, Try.ntmps7
    go_wp2_with fail
    refine (alive22_any _).mono ?_
    rintro e w1 ⟨rfl, hb1⟩
    go_wp2_with fail
    go_ret
    exact ⟨rfl, hb1⟩
  have c1 := Nat.not_lt.1 c1
  by_cases c1 : 20 < p
  · clear ha hb hc
    go_enter Try.func7, Try.ntmps7
    go_wp2_with fail
    refine (alive22_any _).mono ?_
    rintro e w1 ⟨rfl, hb1⟩
    go_wp2_with fail
    go_ret
    exact ⟨rfl, hb1⟩
  have c1 := Nat.not_lt.1 c1
  have Hl := Lib.hid hl; have Hnd := Lib.hid hnd
  have Ha := Lib.hid ha; have Hb := Lib.hid hb; have Hc := Lib.hid hc
  have hle := intVs_len ha
  have Hle := Lib.hid hle
  clear ha hb hc hle hl hnd
  go_enter Try.func7, Try.ntmps7
  go_wp2_with fail
  refine (lentInts_any w.heap.size n cn A es _ Ha.out (Nat.le_refl _) (by omega) hnc).mono ?_
  rintro e w1 ⟨g1, k1, rfl, hk1, ho1, hb1⟩
  have Ho1 := Lib.hid ho1; have Hb1 := Lib.hid hb1
  clear ho1 hb1
  go_wp2_with fail
  refine (lentInts_any w.heap.size m cm D ms _ (Hb.out.below Hb1.out) Hb1.out.size (by omega) hmc).mono ?_
  rintro e w2 ⟨g2, k2, rfl, hk2, ho2, hb2⟩
  have Ho12 := Lib.hid (own_below Ho1.out hb2 (fun q hq => (Ho1.out.lt q hq).2))
  have Ho2 := Lib.hid ho2; have Hb2 := Lib.hid (Hb1.out.trans (hb2.mono Hb1.out.size))
  clear ho2 hb2 Ho1 Hb1
  go_wp2_with fail
  refine (lentInts_any w.heap.size p cp E ts _ (Hc.out.below Hb2.out) Hb2.out.size (by omega) hpc).mono ?_
  rintro e w3 ⟨g3, k3, rfl, hk3, ho3, hb3⟩
  have O1 := Lib.hid (own_below Ho12.out hb3 (fun q hq => (Ho12.out.lt q hq).2))
  have O2 := Lib.hid (own_below Ho2.out hb3 (fun q hq => (Ho2.out.lt q hq).2))
  have O3 := Lib.hid ho3; have Hb3 := Lib.hid (Hb2.out.trans (hb3.mono Hb2.out.size))
  clear ho3 hb3 Ho12 Ho2 Hb2
  go_wp2_with fail
  refine (join_any _ _ n m k1 k2 _ _ es ms l _ (lent_sl O1.out) (lent_sl O2.out) (by omega) (by omega)).mono ?_
  rintro e w4 ⟨rfl, rfl⟩
  generalize hj : joinI es l ms = jn
  have Hj := Lib.hid hj; clear hj
  obtain ⟨j1, j2⟩ := jn
  go_wp2_with fail
  refine (refJoin_any _ _ n m cn cm _ _ es ms l _ (Ha.out.below Hb3.out) (Hb.out.below Hb3.out) (by omega) (by omega)).mono ?_
  rintro e w4 ⟨rfl, q4, rfl⟩
  rw [Hj.out]
  have hnew : ∃ x : Int, atL es n = x ∧ (n = 0 → x = 0) := ⟨_, rfl, fun h => by subst h; rfl⟩
  obtain ⟨x, hx, hx0⟩ := hnew
  cases n with
  | zero =>
    obtain rfl := hx0 rfl
    have Hx := Lib.hid hx
    clear hx hx0
    go_wp2_with fail
    refine (alive22_any _).mono ?_
    rintro e w5 ⟨rfl, hb5⟩
    have hb35 := below_undrewN hb5
    have P1 := Lib.hid (own_below O1.out hb35 (fun q hq => (O1.out.lt q hq).2))
    have P2 := Lib.hid (own_below O2.out hb35 (fun q hq => (O2.out.lt q hq).2))
    have P3 := Lib.hid (own_below O3.out hb35 (fun q hq => (O3.out.lt q hq).2))
    have Hb5 := Lib.hid (Hb3.out.trans (hb35.mono Hb3.out.size))
    clear hb5 hb35
    go_wp2_with fail
    refine (fits_any _ 0 k1 _ es l ep _ (lent_sl P1.out) (by omega)).mono ?_
    rintro e w6 ⟨rfl, rfl⟩
    go_wp2_with fail
    refine (refFits_any _ 0 cn _ es l ep _ (Ha.out.below Hb5.out) (by omega)).mono ?_
    rintro e w6 ⟨rfl, rfl⟩
    go_wp2_with fail
    refine (back_any _ 0 k1 _ es l ep _ (lent_sl P1.out) (by omega) Hl.out).mono ?_
    rintro e w6 ⟨rfl, rfl⟩
    go_wp2_with fail
    refine (refBack_any _ 0 cn _ es l ep _ (Ha.out.below Hb5.out) (by omega) Hl.out).mono ?_
    rintro e w6 ⟨rfl, rfl⟩
    go_wp2_with fail
    refine (agreed_any _ _ 0 p k1 k3 _ _ es ts nd tm _ (lent_sl P1.out) (lent_sl P3.out) (by omega) (by omega) (by omega) Hnd.out.2).mono ?_
    rintro e w6 ⟨rfl, rfl⟩
    go_wp2_with fail
    refine (refAgreed_any _ _ 0 p cn cp _ _ es ts nd tm _ (Ha.out.below Hb5.out) (Hc.out.below Hb5.out) (by omega) (by omega) Hnd.out).mono ?_
    rintro e w6 ⟨rfl, rfl⟩
    go_wp2_with fail
    refine (newest_any _ 0 k1 _ es _ (lent_sl P1.out) (by omega)).mono ?_
    rw [Hx.out]
    rintro e w6 ⟨rfl, rfl⟩
    go_wp2_with fail
    refine (staysInts_any w.heap.size w.heap.size 0 0 k1 cn g1 _ es es _ _ P1.out (Ha.out.below Hb5.out) (by omega) (by omega) rfl).mono ?_
    rintro e w6 ⟨rfl, z6, rfl⟩
    go_wp2_with fail
    refine (staysInts_any w.heap.size w.heap.size m m k2 cm g2 _ ms ms _ _ (own_drewN P2.out _) ((Hb.out.below Hb5.out).drewN _) (by omega) (by omega) rfl).mono ?_
    rintro e w7 ⟨rfl, z7, rfl⟩
    go_wp2_with fail
    refine (staysInts_any w.heap.size w.heap.size p p k3 cp g3 _ ts ts _ _ (by first | exact own_drewN (own_drewN P3.out _) _ | exact own_drewN P3.out _) (by first | exact ((Hc.out.below Hb5.out).drewN _).drewN _ | exact (Hc.out.below Hb5.out).drewN _) (by omega) (by omega) rfl).mono ?_
    rintro e w8 ⟨rfl, z8, rfl⟩
    go_wp2_with fail
    go_ret
    exact ⟨rfl, by exact ⟨Hb5.out.os, Hb5.out.tape, Hb5.out.output, Hb5.out.size, Hb5.out.block⟩⟩
  | succ n =>
    obtain ⟨ad, u, hA, had, hu, hcell⟩ := (Ha.out.below Hb3.out).get (show n < n + 1 by omega)
    subst hA
    obtain ⟨z, hz, rfl⟩ := intVs_get hu
    have hxz : x = z := by rw [← hx]; exact atL_succ es n z hz
    subst hxz
    have Hx := Lib.hid hx
    have e1 : ((n + 1 : Nat) : Int) - 1 = (n : Int) := by omega
    have p1 : 0 < ((n + 1 : Nat) : Int) := by omega
    have p2 : (n : Int) < ((n + 1 : Nat) : Int) := by omega
    have p3 : 0 ≤ (n : Int) := by omega
    have p4 : (n : Int) < (n : Int) + 1 := by omega
    clear hu hz had hx hx0
    go_wp2_with fail
    refine (alive22_any _).mono ?_
    rintro e w5 ⟨rfl, hb5⟩
    have hb35 := below_undrewN hb5
    have P1 := Lib.hid (own_below O1.out hb35 (fun q hq => (O1.out.lt q hq).2))
    have P2 := Lib.hid (own_below O2.out hb35 (fun q hq => (O2.out.lt q hq).2))
    have P3 := Lib.hid (own_below O3.out hb35 (fun q hq => (O3.out.lt q hq).2))
    have Hb5 := Lib.hid (Hb3.out.trans (hb35.mono Hb3.out.size))
    clear hb5 hb35
    go_wp2_with fail
    refine (fits_any _ (n + 1) k1 _ es l ep _ (lent_sl P1.out) (by omega)).mono ?_
    rintro e w6 ⟨rfl, rfl⟩
    go_wp2_with fail
    refine (refFits_any _ (n + 1) cn _ es l ep _ (Ha.out.below Hb5.out) (by omega)).mono ?_
    rintro e w6 ⟨rfl, rfl⟩
    go_wp2_with fail
    refine (back_any _ (n + 1) k1 _ es l ep _ (lent_sl P1.out) (by omega) Hl.out).mono ?_
    rintro e w6 ⟨rfl, rfl⟩
    go_wp2_with fail
    refine (refBack_any _ (n + 1) cn _ es l ep _ (Ha.out.below Hb5.out) (by omega) Hl.out).mono ?_
    rintro e w6 ⟨rfl, rfl⟩
    go_wp2_with fail
    refine (agreed_any _ _ (n + 1) p k1 k3 _ _ es ts nd tm _ (lent_sl P1.out) (lent_sl P3.out) (by omega) (by omega) (by omega) Hnd.out.2).mono ?_
    rintro e w6 ⟨rfl, rfl⟩
    go_wp2_with fail
    refine (refAgreed_any _ _ (n + 1) p cn cp _ _ es ts nd tm _ (Ha.out.below Hb5.out) (Hc.out.below Hb5.out) (by omega) (by omega) Hnd.out).mono ?_
    rintro e w6 ⟨rfl, rfl⟩
    go_wp2_with fail
    refine (newest_any _ (n + 1) k1 _ es _ (lent_sl P1.out) (by omega)).mono ?_
    rw [Hx.out]
    rintro e w6 ⟨rfl, rfl⟩
    go_wp2_with fail
    refine (staysInts_any w.heap.size w.heap.size (n + 1) (n + 1) k1 cn g1 _ es es _ _ P1.out (Ha.out.below Hb5.out) (by omega) (by omega) rfl).mono ?_
    rintro e w6 ⟨rfl, z6, rfl⟩
    go_wp2_with fail
    refine (staysInts_any w.heap.size w.heap.size m m k2 cm g2 _ ms ms _ _ (own_drewN P2.out _) ((Hb.out.below Hb5.out).drewN _) (by omega) (by omega) rfl).mono ?_
    rintro e w7 ⟨rfl, z7, rfl⟩
    go_wp2_with fail
    refine (staysInts_any w.heap.size w.heap.size p p k3 cp g3 _ ts ts _ _ (by first | exact own_drewN (own_drewN P3.out _) _ | exact own_drewN P3.out _) (by first | exact ((Hc.out.below Hb5.out).drewN _).drewN _ | exact (Hc.out.below Hb5.out).drewN _) (by omega) (by omega) rfl).mono ?_
    rintro e w8 ⟨rfl, z8, rfl⟩
    go_wp2_with fail
    go_ret
    exact ⟨rfl, by exact ⟨Hb5.out.os, Hb5.out.tape, Hb5.out.output, Hb5.out.size, Hb5.out.block⟩⟩
end Go.Proofs.Ytnnnilpgnjndlaa
