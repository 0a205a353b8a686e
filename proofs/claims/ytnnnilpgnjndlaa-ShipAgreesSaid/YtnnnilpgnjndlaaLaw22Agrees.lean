/- chapter 22: ShipAgrees, walked. -/
import Derived.Test.YtnnnilpgnjndlaaShipMark
import Derived.Test.YtnnnilpgnjndlaaLentInts
import Derived.Laws.OwnMore
import Derived.Deep.RegionHeld3
import Derived.Deep.AppendLies
namespace Go.Proofs.Ytnnnilpgnjndlaa
open Go.RowKit
set_option maxHeartbeats 4000000
set_option maxRecDepth 100000
set_option linter.unusedVariables false

theorem intVs_first {w : World} {B n k : Nat} {A : Option Addr} {zs : List Int} (h : SlR w B 1 A n (intVs zs)) (hk : k ≤ n) : SlR w B 1 A k (intVs (zs.take k)) := by
  have := h.first hk
  simpa [intVs, List.map_take] using this
theorem intVs_set (zs : List Int) (k : Nat) (x : Int) : (intVs zs).set k (.int .i64 x) = intVs (zs.set k x) := by simp [intVs, List.map_set]
theorem agreedI_pos (nd : Nat) (es : List Int) (term : Int) (ms : List Int) (h : 1 ≤ nd) : agreedI (nd : Int) es term ms = agreedR nd es term ms es.length := by
  unfold agreedI
  rw [if_neg (by omega)]
  simp

theorem shipAgrees_any (A D : Option Addr) (n m cn cm : Nat) (es ms : List Int) (nodes term k more : Int) (w : World) (ha : SlR w w.heap.size 1 A n (intVs es)) (hb : SlR w w.heap.size 1 D m (intVs ms)) (hn : n ≤ 9223372036854775807) (hm : m ≤ 9223372036854775807) (hmc : m ≤ cm) :
    Calls Try.prog 5 #[.int .i64 nodes, .slice A n cn, .int .i64 term, .slice D m cm, .int .i64 k, .int .i64 more] w fun e w' => e = .returned (.bool true) ∧ Below w.heap.size w w' := by
  by_cases c1 : nodes < 1
  · clear ha hb hmc
    go_enter Try.func5, Try.ntmps5
    go_wp2_with fail
    refine (alive22_any _).mono ?_
    rintro e w1 ⟨rfl, hb1⟩
    go_wp2_with fail
    go_ret
    exact ⟨rfl, hb1⟩
  have c1 := Int.not_lt.1 c1
  by_cases c1 : 9 < nodes
  · clear ha hb hmc
    go_enter Try.func5, Try.ntmps5
    go_wp2_with fail
    refine (alive22_any _).mono ?_
    rintro e w1 ⟨rfl, hb1⟩
    go_wp2_with fail
    go_ret
    exact ⟨rfl, hb1⟩
  have c1 := Int.not_lt.1 c1
  by_cases c1 : 40 < n
  · clear ha hb hmc
    go_enter Try.func5, Try.ntmps5
    go_wp2_with fail
    refine (alive22_any _).mono ?_
    rintro e w1 ⟨rfl, hb1⟩
    go_wp2_with fail
    go_ret
    exact ⟨rfl, hb1⟩
  have c1 := Nat.not_lt.1 c1
  by_cases c1 : 12 < m
  · clear ha hb hmc
    go_enter Try.func5, Try.ntmps5
    go_wp2_with fail
    refine (alive22_any _).mono ?_
    rintro e w1 ⟨rfl, hb1⟩
    go_wp2_with fail
    go_ret
    exact ⟨rfl, hb1⟩
  have c1 := Nat.not_lt.1 c1
  by_cases c1 : k < 0
  · clear ha hb hmc
    go_enter Try.func5, Try.ntmps5
    go_wp2_with fail
    refine (alive22_any _).mono ?_
    rintro e w1 ⟨rfl, hb1⟩
    go_wp2_with fail
    go_ret
    exact ⟨rfl, hb1⟩
  have c1 := Int.not_lt.1 c1
  by_cases c1 : (m : Int) ≤ k
  · clear ha hb hmc
    go_enter Try.func5, Try.ntmps5
    go_wp2_with fail
    refine (alive22_any _).mono ?_
    rintro e w1 ⟨rfl, hb1⟩
    go_wp2_with fail
    go_ret
    exact ⟨rfl, hb1⟩
  have c1 := Int.not_le.1 c1
  by_cases c1 : more < 0
  · clear ha hb hmc
    go_enter Try.func5, Try.ntmps5
    go_wp2_with fail
    refine (alive22_any _).mono ?_
    rintro e w1 ⟨rfl, hb1⟩
    go_wp2_with fail
    go_ret
    exact ⟨rfl, hb1⟩
  have c1 := Int.not_lt.1 c1
  by_cases c1 : 100 < more
  · clear ha hb hmc
    go_enter Try.func5, Try.ntmps5
    go_wp2_with fail
    refine (alive22_any _).mono ?_
    rintro e w1 ⟨rfl, hb1⟩
    go_wp2_with fail
    go_ret
    exact ⟨rfl, hb1⟩
  have c1 := Int.not_lt.1 c1
  obtain ⟨j0, hi0, hz0, hz1, hz2⟩ := info_parts info_intB
  obtain ⟨kk, rfl⟩ : ∃ kk : Nat, k = (kk : Int) := ⟨k.toNat, by omega⟩
  obtain ⟨nd, rfl⟩ : ∃ nd : Nat, nodes = (nd : Int) := ⟨nodes.toNat, by omega⟩
  have hkm : kk < m := by omega
  have hnd1 : 1 ≤ nd := by omega
  have hnd9 : nd ≤ 9 := by omega
  have hle := intVs_len ha
  have hlo := intVs_len hb
  have hag := agreed_any w.heap.size w.heap.size n m cn cm A D es ms nd term w ha hb (by omega) (by omega) hmc (by omega)
  obtain ⟨N, hN⟩ : ∃ N, N = agreedI nd es term ms := ⟨_, rfl⟩
  rw [← hN] at hag
  rw [agreedI_pos nd es term ms hnd1] at hN
  have hNn : N ≤ n := by rw [hN, ← hle]; exact agreedR_le nd es term ms es.length
  have hNok : 0 < N → nd / 2 < haveN nd ms N ∧ es[N - 1]?.getD 0 = term := by rw [hN]; exact agreedR_ok nd es term ms es.length
  have Hag := Lib.hid hag; have Ha := Lib.hid ha; have Hb := Lib.hid hb; have Hle := Lib.hid hle; have Hlo := Lib.hid hlo; have HN := Lib.hid hN; have HNok := Lib.hid hNok
  clear hag ha hb hle hlo hN hNok
  go_enter Try.func5, Try.ntmps5
  go_wp2_with fail
  go_loopw [13] (fun i wr => ∃ q : Nat, q ≤ m ∧ i = .int .i64 q ∧ w = wr ∧ Hid (∀ (j : Nat) (x : Int), j < q → ms[j]? = some x → 0 ≤ x ∧ x ≤ 1000)) (fun i _ => m - (intOf i).toNat)
  case atStart => exact ⟨0, Nat.zero_le _, rfl, rfl, Lib.hid fun j x h => absurd h (Nat.not_lt_zero _)⟩
  case round =>
    obtain ⟨q, hq, rfl, rfl, hall⟩ := hrel
    by_cases hlt : q < m
    · obtain ⟨ad, u, hA, had, hu, hcell⟩ := Hb.out.get hlt
      subst hA
      obtain ⟨x, hx, rfl⟩ := intVs_get hu
      clear hu had
      have Hx := Lib.hid hx; clear hx
      have i1 : (q : Int) < (m : Int) := by omega
      have i0 : 0 ≤ (q : Int) := by omega
      by_cases hx0 : x < 0
      · have d1 : decide (x < 0) = true := by simpa using hx0
        clear Hag
        go_wp2_with fail
        refine (alive22_any _).mono ?_
        rintro e w5 ⟨rfl, hb5⟩
        go_wp2_with fail
        go_ret
        exact ⟨rfl, by exact hb5⟩
      · have d1 : decide (x < 0) = false := by simpa using hx0
        by_cases hx1 : 1000 < x
        · have d2 : decide (1000 < x) = true := by simpa using hx1
          clear Hag
          go_wp2_with fail
          refine (alive22_any _).mono ?_
          rintro e w5 ⟨rfl, hb5⟩
          go_wp2_with fail
          go_ret
          exact ⟨rfl, by exact hb5⟩
        · have d2 : decide (1000 < x) = false := by simpa using hx1
          go_wp2_with fail
          go_roundw
          case rel => exact ⟨q + 1, by omega, by go_num, (by first | rfl | trivial), Lib.hid fun j y hj hy => by
            by_cases hjq : j < q
            · exact hall.out j y hjq hy
            · obtain rfl : q = j := by omega
              have := Hx.out.symm.trans hy
              injection this with this
              omega⟩
          case measure => simp [intOf] <;> omega
    · have hge : (m : Int) ≤ (q : Int) := by omega
      have hd13 : decide (q < m) = false := decide_eq_false hlt
      have hall2 : Hid (∀ (j : Nat) (x : Int), ms[j]? = some x → 0 ≤ x ∧ x ≤ 1000) := Lib.hid fun j x hx => hall.out j x (by have := (List.getElem?_eq_some_iff.1 hx).1; have := Hlo.out; omega) hx
      clear hlt hall
      go_wp2_with fail
      refine Hag.out.mono ?_
      rintro e w1 ⟨rfl, rfl⟩
      have n0 : 0 ≤ (N : Int) := by omega
      have n1 : (N : Int) ≤ (n : Int) := by omega
      clear Hag
      go_wp2_with fail
      go_loopw [15, 16] (fun hv i wr => ∃ p H : Nat, p ≤ m ∧ p ≤ nd ∧ i = .int .i64 p ∧ hv = .int .i64 H ∧ w = wr ∧ Hid (H = haveN p ms N)) (fun _ i _ => m - (intOf i).toNat)
      case atStart => exact ⟨0, 0, Nat.zero_le _, Nat.zero_le _, (by first | rfl | trivial), (by first | rfl | trivial), (by first | rfl | trivial), Lib.hid (by simp [haveN])⟩
      case round =>
        obtain ⟨p, H, hp, hpn, rfl, rfl, rfl, hH⟩ := hrel
        have hHp : H ≤ p := by rw [hH.out]; exact haveN_le p ms N
        by_cases hlt : p < m
        · have i1 : (p : Int) < (m : Int) := by omega
          have i0 : 0 ≤ (p : Int) := by omega
          by_cases hl2 : p < nd
          · obtain ⟨ad, u, hA, had, hu, hcell⟩ := Hb.out.get hlt
            subst hA
            obtain ⟨x, hx, rfl⟩ := intVs_get hu
            clear hu had
            have Hx := Lib.hid hx; clear hx
            have i2 : (p : Int) < (nd : Int) := by omega
            by_cases hx0 : (N : Int) ≤ x
            · have d1 : decide ((N : Int) ≤ x) = true := by simpa using hx0
              go_wp2_with fail
              go_roundw
              case rel => exact ⟨p + 1, H + 1, by omega, by omega, by go_num, by go_num, (by first | rfl | trivial), Lib.hid (by rw [haveN_succ p ms N x Hx.out, if_pos hx0, hH.out])⟩
              case measure => simp [intOf] <;> omega
            · have d1 : decide ((N : Int) ≤ x) = false := by simpa using hx0
              go_wp2_with fail
              go_roundw
              case rel => exact ⟨p + 1, H, by omega, by omega, by go_num, (by first | rfl | trivial), (by first | rfl | trivial), Lib.hid (by rw [haveN_succ p ms N x Hx.out, if_neg hx0, hH.out]; rfl)⟩
              case measure => simp [intOf] <;> omega
          · have i2 : (nd : Int) ≤ (p : Int) := by omega
            have hHn : H = haveN nd ms N := by rw [hH.out]; congr 1; omega
            have hH16 : Hid (p ≤ 12) := Lib.hid (by omega)
            clear hH
            have hHle : H ≤ 12 := by omega
            obtain ⟨y, hy⟩ : ∃ y, ms[kk]? = some y := ⟨_, List.getElem?_eq_getElem (by rw [Hlo.out]; exact hkm)⟩
            have hyb := hall2.out kk y hy
            obtain ⟨N2, hN2⟩ : ∃ N2, agreedI (nd : Int) es term (ms.set kk (y + more)) = N2 := ⟨_, rfl⟩
            have hNN : N ≤ N2 := by rw [← hN2, agreedI_pos nd es term _ hnd1, HN.out]; exact agreedR_mono nd es term ms _ (fun j => haveN_set nd ms kk y (y + more) hy (by omega) j) _
            have hNi : (N : Int) ≤ (N2 : Int) := by omega
            have hy0 := hyb.1
            have hy1 := hyb.2
            have HY := Lib.hid hy
            have HN2 := Lib.hid hN2
            have k1 : (kk : Int) < (m : Int) := by omega
            have k0 : 0 ≤ (kk : Int) := by omega
            clear hy hN2 hyb
            cases N with
            | zero =>
              clear hHn
              go_wp2_with (at_builtin; refine wpList_append_sl _ rfl (.const (.slice none 0 0)) (.tmp 121) _ rfl w.heap.size 3 j0 _ 1 8 Try.underlying41 hi0 hz0 hz1 hz2 rfl (by omega) (.slice none 0 0) 0 [] rfl (World.ownsRow_nil _ _ _ _) w.heap.size _ m cm (intVs ms) rfl Hb.out intVs_one (by simp only [maxLen]; omega) (by omega) (Nat.le_refl _) ?_; intro v1 w1 hown1 hg1 hat1; have hb1 : Below w.heap.size w w1 := (Below.refl _ _).grown hg1 (Nat.le_refl _) (by simp [Value.ownBlock]); rw [Nat.zero_add, List.nil_append] at hown1; obtain ⟨g, c9, rfl, hgB, hgl⟩ := hown1.form (by omega); have hk3 : w1.cell? ⟨g, kk, none⟩ = some (.int .i64 y) := (hown1.cellAt kk (by omega)).trans (intVs_at HY.out); have hfz : w1.frozen? ⟨g, kk, none⟩ = false := hown1.frozenAt kk; have hst := (hown1.stored kk (.int .i64 (y + more))).1; rw [intVs_set] at hst; have hc9 := own_cap hst (by omega); have Hs2 := Lib.hid (SlR.own hst); have Hb2 : Hid (Below w.heap.size w (w1.setCell ⟨g, kk, none⟩ (.int .i64 (y + more)))) := Lib.hid (hb1.setCell hgB _); have Hm2 := Lib.hid (Hb.out.below Hb2.out); have Ha2 := Lib.hid (Ha.out.below Hb2.out); clear hown1 hst hg1 hat1 hb1)
              generalize w1.setCell ⟨g, kk, none⟩ (.int .i64 (y + more)) = W2 at Hs2 Hb2 Hm2 Ha2 ⊢
              have kc1 : (kk : Int) ≤ (cm : Int) := by omega
              have kc2 : (kk : Int) ≤ (c9 : Int) := by omega
              go_region_held3 (fun wx => True) (first | exact trivial | go_keep) ((first
                | (go_at_call 9; refine (alive22_any _).mono ?_; rintro e w3 ⟨rfl, hb3⟩; have hb23 : Below W2.heap.size W2 w3 := (by first | exact hb3 | exact below_undrew hb3 | exact below_undrewN hb3); have Hs3 := Lib.hid (Hs2.out.below hb23); have Hm3 := Lib.hid (Hm2.out.below (hb23.mono Hb2.out.size)); have Ha3 := Lib.hid (Ha2.out.below (hb23.mono Hb2.out.size)); have hbe := Hb2.out.trans (hb23.mono Hb2.out.size); clear hb3)
                | (go_at_call 17; refine (agreed_any w.heap.size W2.heap.size n m cn c9 _ _ es (ms.set kk (y + more)) nd term _ (by first | exact Ha3.out | exact Ha3.out.drew | exact Ha3.out.drewN _) (by first | exact Hs3.out | exact Hs3.out.drew | exact Hs3.out.drewN _) (by omega) (by omega) (by omega) (by omega)).mono ?_; rintro e w4 ⟨rfl, rfl⟩; rw [HN2.out])
                | (go_at_call 16; refine (sameInts_any W2.heap.size w.heap.size kk kk c9 cm _ _ ((ms.set kk (y + more)).take kk) (ms.take kk) _ (by have h7 := intVs_first Hs3.out (Nat.le_of_lt hkm); first | exact h7 | exact h7.drew | exact h7.drewN _) (by have h7 := intVs_first Hm3.out (Nat.le_of_lt hkm); first | exact h7 | exact h7.drew | exact h7.drewN _) (by omega) (by omega)).mono ?_; rintro e w5 ⟨rfl, z5, rfl⟩; rw [show decide ((ms.set kk (y + more)).take kk = ms.take kk) = true from decide_eq_true (List.take_set_of_le (Nat.le_refl _))])))
              all_goals
                go_wp2_with fail
                go_ret
                exact ⟨by first | rfl | (simp <;> omega), by exact ⟨hbe.os, hbe.tape, hbe.output, hbe.size, hbe.block⟩⟩
            | succ N =>
              have hok := HNok.out (by omega)
              have hH2 : nd < 2 * H := by rw [hHn]; omega
              clear hHn
              have hlN : N < n := by omega
              obtain ⟨ad, u, hA, had, hu, hcell⟩ := Ha.out.get hlN
              subst hA
              obtain ⟨x, hx, rfl⟩ := intVs_get hu
              have hxt : x = term := by have := hok.2; rw [Nat.add_sub_cancel, hx] at this; exact this
              rw [hxt] at hcell
              clear hok hu had hx hxt
              have e1 : ((N + 1 : Nat) : Int) - 1 = (N : Int) := by omega
              have p1 : 0 < ((N + 1 : Nat) : Int) := by omega
              have p2 : (nd : Int) < 2 * (H : Int) := by omega
              have p3 : (N : Int) < (n : Int) := by omega
              have p4 : 0 ≤ (N : Int) := by omega
              have p5 : (N : Int) + 1 ≤ (N2 : Int) := by omega
              go_wp2_with (at_builtin; refine wpList_append_sl _ rfl (.const (.slice none 0 0)) (.tmp 121) _ rfl w.heap.size 3 j0 _ 1 8 Try.underlying41 hi0 hz0 hz1 hz2 rfl (by omega) (.slice none 0 0) 0 [] rfl (World.ownsRow_nil _ _ _ _) w.heap.size _ m cm (intVs ms) rfl Hb.out intVs_one (by simp only [maxLen]; omega) (by omega) (Nat.le_refl _) ?_; intro v1 w1 hown1 hg1 hat1; have hb1 : Below w.heap.size w w1 := (Below.refl _ _).grown hg1 (Nat.le_refl _) (by simp [Value.ownBlock]); rw [Nat.zero_add, List.nil_append] at hown1; obtain ⟨g, c9, rfl, hgB, hgl⟩ := hown1.form (by omega); have hk3 : w1.cell? ⟨g, kk, none⟩ = some (.int .i64 y) := (hown1.cellAt kk (by omega)).trans (intVs_at HY.out); have hfz : w1.frozen? ⟨g, kk, none⟩ = false := hown1.frozenAt kk; have hst := (hown1.stored kk (.int .i64 (y + more))).1; rw [intVs_set] at hst; have hc9 := own_cap hst (by omega); have Hs2 := Lib.hid (SlR.own hst); have Hb2 : Hid (Below w.heap.size w (w1.setCell ⟨g, kk, none⟩ (.int .i64 (y + more)))) := Lib.hid (hb1.setCell hgB _); have Hm2 := Lib.hid (Hb.out.below Hb2.out); have Ha2 := Lib.hid (Ha.out.below Hb2.out); clear hown1 hst hg1 hat1 hb1)
              generalize w1.setCell ⟨g, kk, none⟩ (.int .i64 (y + more)) = W2 at Hs2 Hb2 Hm2 Ha2 ⊢
              have kc1 : (kk : Int) ≤ (cm : Int) := by omega
              have kc2 : (kk : Int) ≤ (c9 : Int) := by omega
              go_region_held3 (fun wx => True) (first | exact trivial | go_keep) ((first
                | (go_at_call 9; refine (alive22_any _).mono ?_; rintro e w3 ⟨rfl, hb3⟩; have hb23 : Below W2.heap.size W2 w3 := (by first | exact hb3 | exact below_undrew hb3 | exact below_undrewN hb3); have Hs3 := Lib.hid (Hs2.out.below hb23); have Hm3 := Lib.hid (Hm2.out.below (hb23.mono Hb2.out.size)); have Ha3 := Lib.hid (Ha2.out.below (hb23.mono Hb2.out.size)); have hbe := Hb2.out.trans (hb23.mono Hb2.out.size); clear hb3)
                | (go_at_call 17; refine (agreed_any w.heap.size W2.heap.size n m cn c9 _ _ es (ms.set kk (y + more)) nd term _ (by first | exact Ha3.out | exact Ha3.out.drew | exact Ha3.out.drewN _) (by first | exact Hs3.out | exact Hs3.out.drew | exact Hs3.out.drewN _) (by omega) (by omega) (by omega) (by omega)).mono ?_; rintro e w4 ⟨rfl, rfl⟩; rw [HN2.out])
                | (go_at_call 16; refine (sameInts_any W2.heap.size w.heap.size kk kk c9 cm _ _ ((ms.set kk (y + more)).take kk) (ms.take kk) _ (by have h7 := intVs_first Hs3.out (Nat.le_of_lt hkm); first | exact h7 | exact h7.drew | exact h7.drewN _) (by have h7 := intVs_first Hm3.out (Nat.le_of_lt hkm); first | exact h7 | exact h7.drew | exact h7.drewN _) (by omega) (by omega)).mono ?_; rintro e w5 ⟨rfl, z5, rfl⟩; rw [show decide ((ms.set kk (y + more)).take kk = ms.take kk) = true from decide_eq_true (List.take_set_of_le (Nat.le_refl _))])))
              all_goals
                go_wp2_with fail
                go_ret
                exact ⟨by first | rfl | (simp <;> omega), by exact ⟨hbe.os, hbe.tape, hbe.output, hbe.size, hbe.block⟩⟩
        · have i1 : (m : Int) ≤ (p : Int) := by omega
          have hHn : H = haveN nd ms N := by
            rw [hH.out, haveN_all p ms N (by rw [Hlo.out]; omega), haveN_all nd ms N (by rw [Hlo.out]; omega)]
          have hH16 : Hid (p ≤ 12) := Lib.hid (by omega)
          clear hH
          have hHle : H ≤ 12 := by omega
          obtain ⟨y, hy⟩ : ∃ y, ms[kk]? = some y := ⟨_, List.getElem?_eq_getElem (by rw [Hlo.out]; exact hkm)⟩
          have hyb := hall2.out kk y hy
          obtain ⟨N2, hN2⟩ : ∃ N2, agreedI (nd : Int) es term (ms.set kk (y + more)) = N2 := ⟨_, rfl⟩
          have hNN : N ≤ N2 := by rw [← hN2, agreedI_pos nd es term _ hnd1, HN.out]; exact agreedR_mono nd es term ms _ (fun j => haveN_set nd ms kk y (y + more) hy (by omega) j) _
          have hNi : (N : Int) ≤ (N2 : Int) := by omega
          have hy0 := hyb.1
          have hy1 := hyb.2
          have HY := Lib.hid hy
          have HN2 := Lib.hid hN2
          have k1 : (kk : Int) < (m : Int) := by omega
          have k0 : 0 ≤ (kk : Int) := by omega
          clear hy hN2 hyb
          cases N with
          | zero =>
            clear hHn
            go_wp2_with (at_builtin; refine wpList_append_sl _ rfl (.const (.slice none 0 0)) (.tmp 121) _ rfl w.heap.size 3 j0 _ 1 8 Try.underlying41 hi0 hz0 hz1 hz2 rfl (by omega) (.slice none 0 0) 0 [] rfl (World.ownsRow_nil _ _ _ _) w.heap.size _ m cm (intVs ms) rfl Hb.out intVs_one (by simp only [maxLen]; omega) (by omega) (Nat.le_refl _) ?_; intro v1 w1 hown1 hg1 hat1; have hb1 : Below w.heap.size w w1 := (Below.refl _ _).grown hg1 (Nat.le_refl _) (by simp [Value.ownBlock]); rw [Nat.zero_add, List.nil_append] at hown1; obtain ⟨g, c9, rfl, hgB, hgl⟩ := hown1.form (by omega); have hk3 : w1.cell? ⟨g, kk, none⟩ = some (.int .i64 y) := (hown1.cellAt kk (by omega)).trans (intVs_at HY.out); have hfz : w1.frozen? ⟨g, kk, none⟩ = false := hown1.frozenAt kk; have hst := (hown1.stored kk (.int .i64 (y + more))).1; rw [intVs_set] at hst; have hc9 := own_cap hst (by omega); have Hs2 := Lib.hid (SlR.own hst); have Hb2 : Hid (Below w.heap.size w (w1.setCell ⟨g, kk, none⟩ (.int .i64 (y + more)))) := Lib.hid (hb1.setCell hgB _); have Hm2 := Lib.hid (Hb.out.below Hb2.out); have Ha2 := Lib.hid (Ha.out.below Hb2.out); clear hown1 hst hg1 hat1 hb1)
            generalize w1.setCell ⟨g, kk, none⟩ (.int .i64 (y + more)) = W2 at Hs2 Hb2 Hm2 Ha2 ⊢
            have kc1 : (kk : Int) ≤ (cm : Int) := by omega
            have kc2 : (kk : Int) ≤ (c9 : Int) := by omega
            go_region_held3 (fun wx => True) (first | exact trivial | go_keep) ((first
              | (go_at_call 9; refine (alive22_any _).mono ?_; rintro e w3 ⟨rfl, hb3⟩; have hb23 : Below W2.heap.size W2 w3 := (by first | exact hb3 | exact below_undrew hb3 | exact below_undrewN hb3); have Hs3 := Lib.hid (Hs2.out.below hb23); have Hm3 := Lib.hid (Hm2.out.below (hb23.mono Hb2.out.size)); have Ha3 := Lib.hid (Ha2.out.below (hb23.mono Hb2.out.size)); have hbe := Hb2.out.trans (hb23.mono Hb2.out.size); clear hb3)
              | (go_at_call 17; refine (agreed_any w.heap.size W2.heap.size n m cn c9 _ _ es (ms.set kk (y + more)) nd term _ (by first | exact Ha3.out | exact Ha3.out.drew | exact Ha3.out.drewN _) (by first | exact Hs3.out | exact Hs3.out.drew | exact Hs3.out.drewN _) (by omega) (by omega) (by omega) (by omega)).mono ?_; rintro e w4 ⟨rfl, rfl⟩; rw [HN2.out])
              | (go_at_call 16; refine (sameInts_any W2.heap.size w.heap.size kk kk c9 cm _ _ ((ms.set kk (y + more)).take kk) (ms.take kk) _ (by have h7 := intVs_first Hs3.out (Nat.le_of_lt hkm); first | exact h7 | exact h7.drew | exact h7.drewN _) (by have h7 := intVs_first Hm3.out (Nat.le_of_lt hkm); first | exact h7 | exact h7.drew | exact h7.drewN _) (by omega) (by omega)).mono ?_; rintro e w5 ⟨rfl, z5, rfl⟩; rw [show decide ((ms.set kk (y + more)).take kk = ms.take kk) = true from decide_eq_true (List.take_set_of_le (Nat.le_refl _))])))
            all_goals
              go_wp2_with fail
              go_ret
              exact ⟨by first | rfl | (simp <;> omega), by exact ⟨hbe.os, hbe.tape, hbe.output, hbe.size, hbe.block⟩⟩
          | succ N =>
            have hok := HNok.out (by omega)
            have hH2 : nd < 2 * H := by rw [hHn]; omega
            clear hHn
            have hlN : N < n := by omega
            obtain ⟨ad, u, hA, had, hu, hcell⟩ := Ha.out.get hlN
            subst hA
            obtain ⟨x, hx, rfl⟩ := intVs_get hu
            have hxt : x = term := by have := hok.2; rw [Nat.add_sub_cancel, hx] at this; exact this
            rw [hxt] at hcell
            clear hok hu had hx hxt
            have e1 : ((N + 1 : Nat) : Int) - 1 = (N : Int) := by omega
            have p1 : 0 < ((N + 1 : Nat) : Int) := by omega
            have p2 : (nd : Int) < 2 * (H : Int) := by omega
            have p3 : (N : Int) < (n : Int) := by omega
            have p4 : 0 ≤ (N : Int) := by omega
            have p5 : (N : Int) + 1 ≤ (N2 : Int) := by omega
            go_wp2_with (at_builtin; refine wpList_append_sl _ rfl (.const (.slice none 0 0)) (.tmp 121) _ rfl w.heap.size 3 j0 _ 1 8 Try.underlying41 hi0 hz0 hz1 hz2 rfl (by omega) (.slice none 0 0) 0 [] rfl (World.ownsRow_nil _ _ _ _) w.heap.size _ m cm (intVs ms) rfl Hb.out intVs_one (by simp only [maxLen]; omega) (by omega) (Nat.le_refl _) ?_; intro v1 w1 hown1 hg1 hat1; have hb1 : Below w.heap.size w w1 := (Below.refl _ _).grown hg1 (Nat.le_refl _) (by simp [Value.ownBlock]); rw [Nat.zero_add, List.nil_append] at hown1; obtain ⟨g, c9, rfl, hgB, hgl⟩ := hown1.form (by omega); have hk3 : w1.cell? ⟨g, kk, none⟩ = some (.int .i64 y) := (hown1.cellAt kk (by omega)).trans (intVs_at HY.out); have hfz : w1.frozen? ⟨g, kk, none⟩ = false := hown1.frozenAt kk; have hst := (hown1.stored kk (.int .i64 (y + more))).1; rw [intVs_set] at hst; have hc9 := own_cap hst (by omega); have Hs2 := Lib.hid (SlR.own hst); have Hb2 : Hid (Below w.heap.size w (w1.setCell ⟨g, kk, none⟩ (.int .i64 (y + more)))) := Lib.hid (hb1.setCell hgB _); have Hm2 := Lib.hid (Hb.out.below Hb2.out); have Ha2 := Lib.hid (Ha.out.below Hb2.out); clear hown1 hst hg1 hat1 hb1)
            generalize w1.setCell ⟨g, kk, none⟩ (.int .i64 (y + more)) = W2 at Hs2 Hb2 Hm2 Ha2 ⊢
            have kc1 : (kk : Int) ≤ (cm : Int) := by omega
            have kc2 : (kk : Int) ≤ (c9 : Int) := by omega
            go_region_held3 (fun wx => True) (first | exact trivial | go_keep) ((first
              | (go_at_call 9; refine (alive22_any _).mono ?_; rintro e w3 ⟨rfl, hb3⟩; have hb23 : Below W2.heap.size W2 w3 := (by first | exact hb3 | exact below_undrew hb3 | exact below_undrewN hb3); have Hs3 := Lib.hid (Hs2.out.below hb23); have Hm3 := Lib.hid (Hm2.out.below (hb23.mono Hb2.out.size)); have Ha3 := Lib.hid (Ha2.out.below (hb23.mono Hb2.out.size)); have hbe := Hb2.out.trans (hb23.mono Hb2.out.size); clear hb3)
              | (go_at_call 17; refine (agreed_any w.heap.size W2.heap.size n m cn c9 _ _ es (ms.set kk (y + more)) nd term _ (by first | exact Ha3.out | exact Ha3.out.drew | exact Ha3.out.drewN _) (by first | exact Hs3.out | exact Hs3.out.drew | exact Hs3.out.drewN _) (by omega) (by omega) (by omega) (by omega)).mono ?_; rintro e w4 ⟨rfl, rfl⟩; rw [HN2.out])
              | (go_at_call 16; refine (sameInts_any W2.heap.size w.heap.size kk kk c9 cm _ _ ((ms.set kk (y + more)).take kk) (ms.take kk) _ (by have h7 := intVs_first Hs3.out (Nat.le_of_lt hkm); first | exact h7 | exact h7.drew | exact h7.drewN _) (by have h7 := intVs_first Hm3.out (Nat.le_of_lt hkm); first | exact h7 | exact h7.drew | exact h7.drewN _) (by omega) (by omega)).mono ?_; rintro e w5 ⟨rfl, z5, rfl⟩; rw [show decide ((ms.set kk (y + more)).take kk = ms.take kk) = true from decide_eq_true (List.take_set_of_le (Nat.le_refl _))])))
            all_goals
              go_wp2_with fail
              go_ret
              exact ⟨by first | rfl | (simp <;> omega), by exact ⟨hbe.os, hbe.tape, hbe.output, hbe.size, hbe.block⟩⟩
end Go.Proofs.Ytnnnilpgnjndlaa
