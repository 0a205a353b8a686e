/- TabAdds: it does not matter in what order entries come, nor whether all at once. -/
import Derived.Test.YtgaeoglhammjiaaTabDuo
import Derived.Test.YtgaeoglhammjiaaEnBook
import Derived.IntWalk
namespace Go.Proofs.Ytgaeoglhammjiaa
open Go.RowKit
set_option maxHeartbeats 1500000
set_option maxRecDepth 100000
set_option linter.unusedVariables false

theorem mem_swap {l : List En} {i j : Nat} {x y : En} (hi : l[i]? = some x) (hj : l[j]? = some y) (z : En) : z ∈ (l.set i y).set j x ↔ z ∈ l := by
  have li := (List.getElem?_eq_some_iff.1 hi).1
  have lj := (List.getElem?_eq_some_iff.1 hj).1
  rw [List.mem_iff_getElem?, List.mem_iff_getElem?]
  constructor
  · rintro ⟨k, hk⟩
    rw [List.getElem?_set] at hk
    split at hk
    · split at hk
      · injection hk with hk; subst hk; exact ⟨i, hi⟩
      · cases hk
    · rw [List.getElem?_set] at hk
      split at hk
      · first
          | (injection hk with hk; subst hk; exact ⟨j, hj⟩)
          | (split at hk
             · injection hk with hk; subst hk; exact ⟨j, hj⟩
             · cases hk)
      · exact ⟨k, hk⟩
  · rintro ⟨k, hk⟩
    by_cases h1 : k = i
    · subst h1
      rw [hi] at hk; injection hk with hk; subst hk
      exact ⟨j, by rw [List.getElem?_set, if_pos rfl, if_pos (by simpa using lj)]⟩
    · by_cases h2 : k = j
      · subst h2
        rw [hj] at hk; injection hk with hk; subst hk
        exact ⟨i, by rw [List.getElem?_set, if_neg (fun e => h1 e), List.getElem?_set, if_pos rfl, if_pos li]⟩
      · exact ⟨k, by rw [List.getElem?_set, if_neg (fun e => h2 e.symm), List.getElem?_set, if_neg (fun e => h1 e.symm), hk]⟩

theorem enVs_set (ps : List En) (k : Nat) (p : En) (hk : k < ps.length) : setM (enVs ps) (k * 3) (enC p) = enVs (ps.set k p) := by
  rw [setM_eq _ _ _ (by rw [enVs_length]; simp [enC]; omega), enVs_take, List.set_eq_take_append_cons_drop, if_pos hk, enVs_append, enVs_cons, enC_length, show k * 3 + 3 = (k + 1) * 3 from by omega, enVs_drop, List.append_assoc]
theorem row_set {base q n c k : Nat} {ps : List En} {w : World} (hr : w.ownsRow base 26 3 (.slice (some ⟨q, 0, none⟩) n c) n (enVs ps)) (hk : k < ps.length) (p : En) :
    (w.setCells q (k * 3) (enC p)).ownsRow base 26 3 (.slice (some ⟨q, 0, none⟩) n c) n (enVs (ps.set k p)) ∧ w.grownBy (w.setCells q (k * 3) (enC p)) (some q) := by
  have := own_setM (enC p) (enVs ps) (k * 3) w hr
  rwa [enVs_set ps k p hk] at this
theorem idx_in (x : Int) (n : Nat) (h : 0 < n) (hn : n ≤ 40) : ∃ a : Nat, a < n ∧ (wrap64 (x.tmod n + n)).tmod n = a := by
  have h1 := Int.tmod_lt_of_pos x (show (0 : Int) < n by omega)
  have h2 := Int.tmod_lt_of_pos (-x) (show (0 : Int) < n by omega)
  rw [Int.neg_tmod] at h2
  generalize x.tmod (n : Int) = t at h1 h2
  have h3 : wrap64 (t + n) = t + n := by unfold wrap64; omega
  rw [h3]
  have h4 := Int.tmod_nonneg (n : Int) (show 0 ≤ t + (n : Int) by omega)
  have h5 := Int.tmod_lt_of_pos (t + (n : Int)) (show (0 : Int) < n by omega)
  exact ⟨((t + (n : Int)).tmod n).toNat, by omega, by omega⟩

theorem tabAdds_any (A1 A2 : Option Addr) (n1 n2 c1 c2 : Nat) (ps : List En) (zs : List Int) (W : World) (h1 : SlR W W.heap.size 3 A1 n1 (enVs ps)) (h2 : SlR W W.heap.size 1 A2 n2 (intVs zs)) (hz : ∀ z ∈ zs, -9223372036854775808 ≤ z ∧ z ≤ 9223372036854775807) (hm1 : n1 ≤ 9223372036854775807) (hm2 : n2 ≤ 9223372036854775807) :
    Calls Try.prog 3 #[.slice A1 n1 c1, .slice A2 n2 c2] W fun e w' => e = .returned (.bool true) ∧ Below W.heap.size W w' := by
  by_cases c1 : 40 < n1
  · clear h1 h2 hz
    go_enter Try.func3, Try.ntmps3
    go_wp2_with fail
    refine (alive12_any _).mono ?_
    rintro e w1 ⟨rfl, hb1⟩
    go_wp2_with fail
    go_ret
    exact ⟨rfl, hb1⟩
  have c1 := Nat.not_lt.1 c1
  by_cases c2 : 40 < n2
  · clear h1 h2 hz
    go_enter Try.func3, Try.ntmps3
    go_wp2_with fail
    refine (alive12_any _).mono ?_
    rintro e w1 ⟨rfl, hb1⟩
    go_wp2_with fail
    go_ret
    exact ⟨rfl, hb1⟩
  have c2 := Nat.not_lt.1 c2
  obtain ⟨i0, hi0, hz0, hz1, hz2⟩ := info_parts info_en
  have hl1 : ps.length = n1 := by have := h1.len; rw [enVs_length] at this; omega
  have H1 := Lib.hid h1; have H2 := Lib.hid h2; have Hz := Lib.hid hz; have Hl := Lib.hid hl1
  clear h1 h2 hz hl1
  go_enter Try.func3, Try.ntmps3
  go_wp2_with (at_builtin; refine wpList_append_sl _ rfl (.const (.slice none 0 0)) (.tmp 23) _ rfl W.heap.size 26 i0 _ 3 24 Try.underlying22 hi0 hz0 hz1 hz2 rfl (by omega) (.slice none 0 0) 0 [] rfl (World.ownsRow_nil _ _ _ _) W.heap.size A1 n1 _ (enVs ps) rfl H1.out (enVs_one ps) (by simp only [maxLen]; omega) (by omega) (Nat.le_refl _) ?_; intro v1 w1 hown1 hg1 hat1; have hb1 : Below W.heap.size W w1 := (Below.refl _ _).grown hg1 (Nat.le_refl _) (by simp [Value.ownBlock]); simp only [Nat.zero_add, List.nil_append] at hown1; have Hown1 := Lib.hid hown1; have Hb1 := Lib.hid hb1; clear hown1 hg1 hat1 hb1)
  obtain ⟨Am, cm, rfl, hncm⟩ := own_slice Hown1.out
  go_loopw [6] (fun i wr => ∃ (k : Nat) (ms : List En), i = .int .i64 (k : Int) ∧ k ≤ n2 ∧ Hid (wr.ownsRow W.heap.size 26 3 (.slice Am n1 cm) n1 (enVs ms) ∧ (∀ y, y ∈ ms ↔ y ∈ ps) ∧ Below W.heap.size W wr)) (fun i _ => n2 - (intOf i).toNat)
  case atStart => exact ⟨0, ps, rfl, Nat.zero_le _, Lib.hid ⟨Hown1.out, fun _ => Iff.rfl, Hb1.out⟩⟩
  case round =>
    obtain ⟨k, ms, rfl, hk, HI⟩ := hrel
    have hkk : (k : Int) + 1 ≤ 41 := by omega
    have hk0 : 0 ≤ (k : Int) := by omega
    by_cases hgo : k + 1 < n2 ∧ 0 < n1
    · obtain ⟨hlt, hn0⟩ := hgo
      obtain ⟨hown, hmem, hbel⟩ := HI.out
      have hz2l : zs.length = n2 := by have := H2.out.len; simpa [intVs] using this
      obtain ⟨ao, rfl, hao, hcell⟩ := H2.out.cells (by omega)
      obtain ⟨x, hx⟩ : ∃ x, zs[k]? = some x := ⟨_, List.getElem?_eq_getElem (by omega)⟩
      obtain ⟨y, hy⟩ : ∃ y, zs[k + 1]? = some y := ⟨_, List.getElem?_eq_getElem (by omega)⟩
      have hx1 := Hz.out x (List.mem_of_getElem? hx)
      have hy1 := Hz.out y (List.mem_of_getElem? hy)
      have o0 := (hbel.cell (p := ao.add k) (by rw [add_block]; exact hao)).trans (hcell k _ (intVs_at hx))
      have o1 := (hbel.cell (p := ao.add (k + 1)) (by rw [add_block]; exact hao)).trans (hcell (k + 1) _ (intVs_at hy))
      have o1' := o1
      rw [show ao.add (k + 1) = ⟨ao.block, ao.off + (k + 1), none⟩ from by unfold Addr.add; simp] at o1'
      have d1 : decide ((k : Int) + 1 < (n2 : Int)) = true := by simp; omega
      have d2 : decide (0 < n1) = true := by simpa using hn0
      have k1 : (k : Int) < (n2 : Int) := by omega
      have k2 : (k : Int) + 1 < (n2 : Int) := by omega
      clear hown hmem hbel hcell hx hy hz2l
      obtain ⟨hx1, hx2⟩ := hx1
      obtain ⟨hy1, hy2⟩ := hy1
      have e3 : IntKind.i64.wrap ((k : Int) + 1) = (k : Int) + 1 := IntWalk.i64_in _ (by omega)
      have e4 : ((k : Int) + 1).toNat = k + 1 := by omega
      have k3 : 0 ≤ (k : Int) + 1 := by omega
      go_wp2_with fail
      go_quiet (fail)
      obtain ⟨a, ha, ea⟩ := idx_in x n1 hn0 c1
      obtain ⟨b, hb, eb⟩ := idx_in y n1 hn0 c1
      go_wp2_with fail
      rw [ea, eb]
      clear ea eb o0 o1 o1' e3 e4 k3 hx1 hx2 hy1 hy2
      obtain ⟨hown, hmem, hbel⟩ := HI.out
      have hml : ms.length = n1 := by have := hown.1; rw [enVs_length] at this; omega
      obtain ⟨q, c, hv, _, hq⟩ := hown.form hn0
      injection hv with hv1 hv2 hv3
      subst hv1 hv3
      obtain ⟨pa, hpa⟩ : ∃ p, ms[a]? = some p := ⟨_, List.getElem?_eq_getElem (by omega)⟩
      obtain ⟨pb, hpb⟩ : ∃ p, ms[b]? = some p := ⟨_, List.getElem?_eq_getElem (by omega)⟩
      have hfz := hown.frozenAt
      have hqW := (hown.lt q rfl).1
      have hsw := mem_swap hpa hpb
      have hsw2 := mem_swap hpb hpa
      have HPP := Lib.hid (show a = b → pa = pb from fun e => by subst e; rw [hpa] at hpb; injection hpb)
      have hfin1 : ∀ j, Hid (((((wr.drewN j).setCells q (a * 3) (enC pb)).setCells q (b * 3) (enC pa)).ownsRow W.heap.size 26 3 (.slice (some ⟨q, 0, none⟩) n1 cm) n1 (enVs ((ms.set a pb).set b pa))) ∧ (∀ y, y ∈ (ms.set a pb).set b pa ↔ y ∈ ps) ∧ Below W.heap.size W (((wr.drewN j).setCells q (a * 3) (enC pb)).setCells q (b * 3) (enC pa))) := by
        intro j
        have hown := own_drewN hown j
        have hbel := below_drewN hbel j
        obtain ⟨r1, g1⟩ := row_set hown (by omega : a < ms.length) pb
        obtain ⟨r2, g2⟩ := row_set r1 (by rw [List.length_set]; omega : b < (ms.set a pb).length) pa
        exact Lib.hid ⟨r2, fun y => (hsw y).trans (hmem y), (hbel.grown g1 hbel.size (fun x hx => by injection hx with hx; omega)).grown g2 (by have := g1.size; have := hbel.size; omega) (fun x hx => by injection hx with hx; omega)⟩
      have hfin2 : ∀ j, Hid (((((wr.drewN j).setCells q (b * 3) (enC pa)).setCells q (a * 3) (enC pb)).ownsRow W.heap.size 26 3 (.slice (some ⟨q, 0, none⟩) n1 cm) n1 (enVs ((ms.set b pa).set a pb))) ∧ (∀ y, y ∈ (ms.set b pa).set a pb ↔ y ∈ ps) ∧ Below W.heap.size W (((wr.drewN j).setCells q (b * 3) (enC pa)).setCells q (a * 3) (enC pb))) := by
        intro j
        have hown := own_drewN hown j
        have hbel := below_drewN hbel j
        obtain ⟨r1, g1⟩ := row_set hown (by omega : b < ms.length) pa
        obtain ⟨r2, g2⟩ := row_set r1 (by rw [List.length_set]; omega : a < (ms.set b pa).length) pb
        exact Lib.hid ⟨r2, fun y => (hsw2 y).trans (hmem y), (hbel.grown g1 hbel.size (fun x hx => by injection hx with hx; omega)).grown g2 (by have := g1.size; have := hbel.size; omega) (fun x hx => by injection hx with hx; omega)⟩
      have k0 := (hown.cellAt (a * 3) (by omega)).trans (enVs_get ms a 0 _ hpa (by omega))
      have k1' := (hown.cellAt (a * 3 + 1) (by omega)).trans (enVs_get ms a 1 _ hpa (by omega))
      have k2' := (hown.cellAt (a * 3 + 2) (by omega)).trans (enVs_get ms a 2 _ hpa (by omega))
      have l0 := (hown.cellAt (b * 3) (by omega)).trans (enVs_get ms b 0 _ hpb (by omega))
      have l1 := (hown.cellAt (b * 3 + 1) (by omega)).trans (enVs_get ms b 1 _ hpb (by omega))
      have l2 := (hown.cellAt (b * 3 + 2) (by omega)).trans (enVs_get ms b 2 _ hpb (by omega))
      obtain ⟨x0, x1, x2⟩ := pa
      obtain ⟨y0, y1, y2⟩ := pb
      simp [enC] at k0 k1' k2' l0 l1 l2
      have n0 : (0 : Int) ≤ (a : Int) := by omega
      have n1' : (a : Int) < (n1 : Int) := by omega
      have m0 : (0 : Int) ≤ (b : Int) := by omega
      have m1 : (b : Int) < (n1 : Int) := by omega
      clear hown hmem hbel hsw hsw2 hpa hpb hml d1 d2 Hown1 Hb1
      by_cases hab : a = b
      · have hpp := HPP.out hab
        subst hab
        simp only [Prod.mk.injEq] at hpp
        obtain ⟨rfl, rfl, rfl⟩ := hpp
        clear l0 l1 l2 m0 m1 hfin2
        go_region
        all_goals
          go_wp2_with fail
          go_roundw
          case rel => exact ⟨k + 1, _, by go_num, by omega, hfin1 _⟩
          case measure => simp [intOf]; omega
      · have e01 : ¬ a * 3 = b * 3 + 1 := by omega
        have e02 : ¬ a * 3 = b * 3 + 2 := by omega
        have e10 : ¬ a * 3 + 1 = b * 3 := by omega
        have e12 : ¬ a * 3 + 1 = b * 3 + 2 := by omega
        have e20 : ¬ a * 3 + 2 = b * 3 := by omega
        have e21 : ¬ a * 3 + 2 = b * 3 + 1 := by omega
        have f01 : ¬ b * 3 = a * 3 + 1 := by omega
        have f02 : ¬ b * 3 = a * 3 + 2 := by omega
        have f10 : ¬ b * 3 + 1 = a * 3 := by omega
        have f12 : ¬ b * 3 + 1 = a * 3 + 2 := by omega
        have f20 : ¬ b * 3 + 2 = a * 3 := by omega
        have f21 : ¬ b * 3 + 2 = a * 3 + 1 := by omega
        have hmn : ¬ b = a := fun e => hab e.symm
        go_region
        all_goals
          go_wp2_with fail
          go_roundw
          case rel => first | exact ⟨k + 1, _, by go_num, by omega, hfin1 _⟩ | exact ⟨k + 1, _, by go_num, by omega, hfin2 _⟩
          case measure => simp [intOf]; omega
    · have hx : decide ((k : Int) + 1 < (n2 : Int)) = false ∨ (decide ((k : Int) + 1 < (n2 : Int)) = true ∧ decide (0 < n1) = false) := by
        rw [decide_eq_false_iff_not, decide_eq_true_iff, decide_eq_false_iff_not]; omega
      obtain ⟨hown, hmem, hbel⟩ := HI.out
      have hpm := adds_perm hmem
      have hml : ms.length = n1 := by have := hown.1; rw [enVs_length] at this; omega
      have hle : (addsE [] ps).length ≤ n1 := by have := (adds_le [] ps).2; simp only [List.length_nil, Nat.zero_add] at this; have := Hl.out; omega
      have hns : SortedE (addsE [] ps) := adds_sorted List.Pairwise.nil ps
      have htw := adds_twice ps
      obtain ⟨v, hv⟩ : ∃ v, v = Value.slice Am n1 cm := ⟨_, rfl⟩
      have Hown := Lib.hid hown; have Hbel := Lib.hid hbel; have Hpm := Lib.hid hpm; have Hml := Lib.hid hml; have Htw := Lib.hid htw; have Hns := Lib.hid hns
      clear hown hmem hbel hpm hml htw hns HI Hown1 Hb1
      rcases hx with d1 | ⟨d1, d2⟩
      all_goals as_aux_lemma =>
        go_wp2_with fail
        refine (new_any _).mono ?_
        rintro e w2 ⟨rfl, hn2, hb2⟩
        have N1 : TabAt W w2 wr.heap.size none [] := ⟨TabIs.weak (hn2 wr.heap.size) Hbel.out.size, Hbel.out.size, Hbel.out.trans (hb2.mono Hbel.out.size)⟩
        have Hown2 := Lib.hid (own_below Hown.out hb2 (fun q hq => (Hown.out.lt q hq).2))
        go_wp2_with fail
        refine (new_any _).mono ?_
        rintro e w3 ⟨rfl, hn3, hb3⟩
        have N2 : TabAt W w3 w2.heap.size none [] := ⟨TabIs.weak (hn3 w2.heap.size) N1.bel.size, N1.bel.size, N1.bel.trans (hb3.mono N1.bel.size)⟩
        have Hown3 := Lib.hid (own_below Hown2.out hb3 (fun q hq => (Hown2.out.lt q hq).2))
        have D0 := (Duo.made N1 N2 hb3 (Nat.le_refl _) (fun q h => by cases h))
        have D1 : Duo W w3 (fun b => (Value.slice Am n1 cm).ownBlock = some b) wr.heap.size none [] w2.heap.size none [] := by
          refine ⟨D0.a, D0.b, D0.tt, D0.t1, D0.t2, D0.rr, fun q hq => ?_⟩
          have := (Hown.out.lt q hq).2
          have := hb2.size; have := hb3.size
          exact ⟨by omega, by omega, by simp, by simp, by omega⟩
        have HD := Lib.hid D1
        clear hn2 hn3 hb2 hb3 N1 N2 D0 D1 Hown2 Hown Hbel
        generalize wr.heap.size = T1 at HD ⊢
        generalize w2.heap.size = T2 at HD ⊢
        go_wp2_with fail
        refine (HD.out.add List.Pairwise.nil A1 n1 _ ps ((H1.out.below HD.out.a.bel).more HD.out.a.bel.size) ?_ (by simp; omega)).mono ?_
        · rintro h0 ad rfl
          obtain ⟨ad', e, hlt', _⟩ := H1.out.cells h0
          injection e with e
          exact .inl (e ▸ hlt')
        rintro e w4 ⟨rfl, r1, D4, hk4⟩
        have HO4 := Lib.hid (own_keptT Hown3.out hk4)
        have HD4 := Lib.hid D4
        clear D4 hk4 Hown3 HD
        go_wp2_with fail
        go_loopw [12, 13] (fun o i wx => ∃ (j : Nat) (r2 : Option Nat), o = .int .i64 (((addsE [] (ms.take j)).length : Nat) : Int) ∧ j ≤ n1 ∧ i = .int .i64 (j : Int) ∧ Hid (Duo W wx (fun b => (Value.slice Am n1 cm).ownBlock = some b) T1 r1 (addsE [] ps) T2 r2 (addsE [] (ms.take j))) ∧ Hid (wx.ownsRow W.heap.size 26 3 (.slice Am n1 cm) n1 (enVs ms))) (fun _ i _ => n1 - (intOf i).toNat)
        case atStart => exact ⟨0, none, by simp [addsE], Nat.zero_le _, rfl, HD4, HO4⟩
        case round =>
          obtain ⟨j, r2, rfl, hj, rfl, HD, HO⟩ := hrel
          have hj0 : (0 : Int) ≤ (j : Int) := by omega
          by_cases hlt : j < n1
          · obtain ⟨q, c, hv', _, hq⟩ := HO.out.form (by omega)
            injection hv' with hv1 hv2 hv3
            subst hv1 hv3
            obtain ⟨p, hp⟩ : ∃ p, ms[j]? = some p := ⟨_, List.getElem?_eq_getElem (by rw [Hml.out]; exact hlt)⟩
            have k0 := (HO.out.cellAt (j * 3) (by omega)).trans (enVs_get ms j 0 _ hp (by omega))
            have k1' := (HO.out.cellAt (j * 3 + 1) (by omega)).trans (enVs_get ms j 1 _ hp (by omega))
            have k2' := (HO.out.cellAt (j * 3 + 2) (by omega)).trans (enVs_get ms j 2 _ hp (by omega))
            have hsn : addsE [] (ms.take (j + 1)) = addsE (addsE [] (ms.take j)) [p] := by
              rw [List.take_add_one, hp]; exact adds_snoc _ _ _
            have hle2 : (addsE [] (ms.take j)).length ≤ j := by have := (adds_le [] (ms.take j)).2; simp only [List.length_nil, Nat.zero_add, List.length_take] at this; omega
            have hle3 := adds_le (addsE [] (ms.take j)) [p]
            have Hsn := Lib.hid hsn
            obtain ⟨x0, x1, x2⟩ := p
            simp [enC] at k0 k1' k2'
            have hlt' : (j : Int) < (n1 : Int) := by omega
            have hS : SortedE (addsE [] (ms.take j)) := adds_sorted List.Pairwise.nil _
            have HS := Lib.hid hS
            clear hp hsn hS
            have hA := (Below.refl wr.heap.size wr).alloc (Nat.le_refl _) (.cells #[.int .i64 x0, .int .i64 x1, .int .i64 x2] 26)
            have D5 := (HD.out.swap.avoid hA (fun b => (Value.slice (some ⟨q, 0, none⟩) n1 cm).ownBlock = some b ∨ b = wr.heap.size) (by
              rintro b (hb | rfl)
              · exact ⟨.inl hb, by have := (HD.out.av b hb).2.2.2.2; simp; omega⟩
              · exact ⟨.inr (Nat.le_refl _), by simp⟩)).add HS.out (some ⟨wr.heap.size, 0, none⟩) 1 1 [(x0, x1, x2)] (by have := sl_en wr [(x0, x1, x2)] #[.int .i64 x0, .int .i64 x1, .int .i64 x2] rfl; simpa using this) (fun _ ad e => by injection e with e; subst e; exact .inr (.inr rfl)) (by omega)
            obtain ⟨L, hL⟩ : ∃ L, L = addsE [] (ms.take j) := ⟨_, rfl⟩
            obtain ⟨L', hL'⟩ : ∃ L, L = addsE (addsE [] (ms.take j)) [(x0, x1, x2)] := ⟨_, rfl⟩
            rw [← hL', ← hL] at D5 hle3
            rw [← hL'] at Hsn
            rw [← hL] at hle2 ⊢
            have HD5 := Lib.hid D5
            have HO5 := Lib.hid (HO.out.alloc (.cells #[.int .i64 x0, .int .i64 x1, .int .i64 x2] 26))
            obtain ⟨hle4, hle5⟩ := hle3
            simp only [List.length_cons, List.length_nil] at hle5
            have hle6 : (0 : Int) ≤ (L'.length : Int) - (L.length : Int) := by omega
            have hle7 : (L'.length : Int) - (L.length : Int) ≤ 1 := by omega
            have hle8 : (L.length : Int) ≤ 40 := by omega
            have hle9 : (0 : Int) ≤ (L.length : Int) := by omega
            have hsum : (L.length : Int) + ((L'.length : Int) - (L.length : Int)) = (L'.length : Int) := by omega
            have Hsum := Lib.hid hsum
            clear D5 hA hL hL' hsum HS HD HO HO4 HD4
            go_wp2_with fail
            refine HD5.out.mono ?_
            rintro e w5 ⟨rfl, r5, D6, hk6⟩
            have HD6 : Hid (Duo W w5 (fun b => (Value.slice (some ⟨q, 0, none⟩) n1 cm).ownBlock = some b) T1 r1 (addsE [] ps) T2 r5 L') := Lib.hid ⟨D6.swap.a, D6.swap.b, D6.swap.tt, D6.swap.t1, D6.swap.t2, D6.swap.rr, fun q hq => D6.swap.av q (.inl hq)⟩
            have HO6 := Lib.hid (own_keptT HO5.out (fun b hb => hk6 b (.inl hb)))
            clear D6 hk6 HD5 HO5
            go_wp2_with fail
            go_roundw
            case rel => exact ⟨j + 1, r5, by rw [Hsn.out, Hsum.out], by omega, by go_num, by rw [Hsn.out]; exact HD6, HO6⟩
            case measure => simp [intOf]; omega
          · obtain rfl : j = n1 := by omega
            have hd : decide (j < j) = false := by simp
            have htk : ms.take j = ms := List.take_of_length_le (Nat.le_of_eq Hml.out)
            rw [htk, Hpm.out] at HD ⊢
            clear htk
            go_wp2_with fail
            refine (alive12_any _).mono ?_
            rintro e w6 ⟨rfl, hb6⟩
            have HD6 := Lib.hid (HD.out.under hb6)
            clear hb6
            go_wp2_with fail
            refine (len_any W.heap.size T1 r1 _ _ HD6.out.a.is (by omega)).mono ?_
            rintro e w7 ⟨rfl, rfl⟩
            go_wp2_with fail
            refine (all_any W.heap.size T1 r1 _ _ HD6.out.a.is (by omega)).mono ?_
            rintro e w8 ⟨u1, rfl, hown8, hb8⟩
            obtain ⟨B1, d1, rfl, _⟩ := own_slice hown8
            have HO8 := Lib.hid hown8
            have HD8 := Lib.hid (HD6.out.under hb8)
            clear hown8 hb8
            go_wp2_with fail
            refine (all_any W.heap.size T2 r2 _ _ HD8.out.b.is (by omega)).mono ?_
            rintro e w9 ⟨u2, rfl, hown9, hb9⟩
            obtain ⟨B2, d2, rfl, _⟩ := own_slice hown9
            have HO9 := Lib.hid hown9
            have HO8' := Lib.hid (own_below HO8.out hb9 (fun q hq => (HO8.out.lt q hq).2))
            have HD9 := Lib.hid (HD8.out.under hb9)
            clear hown9 hb9
            go_wp2_with fail
            refine (sameEntries_eq _ _ _ _ _ _ _ _ _ (SlR.own HO8'.out) (SlR.own HO9.out) (by omega)).mono ?_
            rintro e w10 ⟨rfl, kq, rfl⟩
            have HD10 := Lib.hid (HD9.out.under (below_drewN (Below.refl _ _) kq))
            go_wp2_with fail
            refine (HD10.out.add Hns.out A1 j _ ps ((H1.out.below HD10.out.a.bel).more HD10.out.a.bel.size) ?_ (by omega)).mono ?_
            · rintro h0 ad rfl
              obtain ⟨ad', e, hlt', _⟩ := H1.out.cells h0
              injection e with e
              exact .inl (e ▸ hlt')
            rw [Htw.out]
            rintro e w11 ⟨rfl, r11, D11, _⟩
            have HB := Lib.hid D11.a.bel
            clear D11
            go_wp2_with fail
            go_ret
            exact ⟨rfl, HB.out⟩
end Go.Proofs.Ytgaeoglhammjiaa
