/- chapter 12: TabFinds, walked (printed by mkfinds12.py). -/
import Derived.Test.YtgaeoglhammjiaaTabAlive
import Derived.Test.YtgaeoglhammjiaaTabEql
import Derived.Test.YtgaeoglhammjiaaTabNil
import Derived.Deep.RegionHeld3
import Derived.IntWalk
namespace Go.Proofs.Ytgaeoglhammjiaa
open Go.RowKit
set_option maxHeartbeats 4000000
set_option maxRecDepth 100000
set_option linter.unusedVariables false

theorem last_snoc (l : List En) (h : Int) (k : Nat) (e : En) (he : l[k]? = some e) : lastE (l.take (k + 1)) h = if e.1 = h then some e else lastE (l.take k) h := by
  unfold lastE
  rw [filter_snoc _ l k e he]
  by_cases h1 : e.1 = h
  · rw [if_pos h1, if_pos (by simpa using h1)]; simp
  · rw [if_neg h1, if_neg (by simpa using h1)]; simp
theorem TabIs.belowG {w w' : World} {base T g : Nat} {r : Option Nat} {l : List En} (h : TabIs w base T r l) (hb : Below g w w') (hT : T < g) (hr : ∀ q, r = some q → q < g) : TabIs w' base T r l := by
  obtain ⟨v, h1, h2, h3, h4⟩ := h
  exact ⟨v, h1.below hb hT, own_below h2 hb (fun q hq => hr q (h3.symm.trans hq)), h3, h4⟩
theorem mem_snoc (zs : List Int) (k : Nat) (z p : Int) (hz : zs[k]? = some z) : decide (p ∈ zs.take (k + 1)) = (decide (p ∈ zs.take k) || (z == p)) := by
  rw [List.take_add_one, hz, Bool.eq_iff_iff, decide_eq_true_eq, Bool.or_eq_true, decide_eq_true_eq, beq_iff_eq, List.mem_append]
  simp [eq_comm]

theorem tabFinds_any (A1 : Option Addr) (n1 c1 : Nat) (ps : List En) (hash : Int) (W : World) (h1 : SlR W W.heap.size 3 A1 n1 (enVs ps)) (hm1 : n1 ≤ 9223372036854775807) :
    Calls Try.prog 4 #[.slice A1 n1 c1, .int .i64 hash] W fun e w' => e = .returned (.bool true) ∧ Below W.heap.size W w' := by
  by_cases c1 : 40 < n1
  · clear h1
    go_enter Try.func4, Try.ntmps4
    go_wp2_with fail
    refine (alive12_any _).mono ?_
    rintro e w1 ⟨rfl, hb1⟩
    go_wp2_with fail
    go_ret
    exact ⟨rfl, hb1⟩
  have c1 := Nat.not_lt.1 c1
  have hl1 : ps.length = n1 := by have := h1.len; rw [enVs_length] at this; omega
  have hle : (addsE [] ps).length ≤ 40 := by have := (adds_le [] ps).2; simp only [List.length_nil, Nat.zero_add] at this; omega
  have hso : SortedE (addsE [] ps) := adds_sorted List.Pairwise.nil ps
  have H1 := Lib.hid h1; have Hso := Lib.hid hso
  clear h1 hl1 hso
  go_enter Try.func4, Try.ntmps4
  go_wp2_with fail
  refine (new_any _).mono ?_
  rintro e w2 ⟨rfl, hn2, hb2⟩
  have N1 : TabAt W w2 W.heap.size none [] := ⟨hn2 _, Nat.le_refl _, hb2⟩
  have HN := Lib.hid N1
  clear hn2 hb2 N1
  generalize hT : W.heap.size = T at HN ⊢
  have HT := Lib.hid hT
  clear hT
  go_wp2_with fail
  refine (add_any W.heap.size T none [] ps A1 n1 _ _ HN.out.is List.Pairwise.nil ((H1.out.below HN.out.bel).more HN.out.bel.size) ?_ HN.out.bel.size (by simp; omega)).mono ?_
  · rintro h0 ad rfl
    obtain ⟨ad', e, hlt', _⟩ := H1.out.cells h0
    injection e with e
    subst e
    exact ⟨by have := HN.out.lo; omega, by simp⟩
  rintro e w3 ⟨rfl, r, hi3, hs3⟩
  have N3 := Lib.hid (HN.out.step hi3 hs3)
  clear hi3 hs3 HN
  obtain ⟨L, hL⟩ : ∃ L, L = addsE [] ps := ⟨_, rfl⟩
  rw [← hL] at N3 hle Hso
  clear hL
  go_wp2_with fail
  refine (all_any _ T r L _ N3.out.is (by omega)).mono ?_
  rintro e w4 ⟨u, rfl, hown4, hb4⟩
  obtain ⟨B1, d1, rfl, _⟩ := own_slice hown4
  have N4 := Lib.hid (N3.out.under hb4)
  have O4 := Lib.hid hown4
  clear hown4 hb4 N3
  go_wp2_with fail
  obtain ⟨W7, hW7⟩ : ∃ V, w4.alloc (.cells #[.int .i64 0, .int .i64 0, .int .i64 0] 26) = V := ⟨_, rfl⟩
  (try rw [hW7])
  have hG : BlkIs W7 w4.heap.size 26 #[.int .i64 0, .int .i64 0, .int .i64 0] := by rw [← hW7]; exact BlkIs.new _ _ _
  have hb7 : Below w4.heap.size w4 W7 := by rw [← hW7]; exact (Below.refl _ _).alloc (Nat.le_refl _) _
  have N7 := Lib.hid (N4.out.under hb7)
  have O7 := Lib.hid (own_below O4.out hb7 (fun q hq => (O4.out.lt q hq).2))
  have hqg : ∀ q, (Value.slice B1 L.length d1).ownBlock = some q → q < w4.heap.size := fun q hq => (O4.out.lt q hq).2
  have hTg : T < w4.heap.size := N4.out.is.lt
  have hrg : ∀ q, r = some q → q < w4.heap.size := fun q hq => (N4.out.is.row_lt q hq).2
  have hg7 : w4.heap.size < W7.heap.size := hG.lt
  have hWg : W.heap.size ≤ w4.heap.size := N4.out.bel.size
  generalize w4.heap.size = g at hG hqg hTg hrg hg7 hWg ⊢
  have Hqg := Lib.hid hqg; have Hrg := Lib.hid hrg; have HG := Lib.hid hG
  clear hb7 N4 O4 hW7 hG hqg hrg
  go_loopw [8, 9] (fun hv i wr => ∃ (k : Nat), k ≤ L.length ∧ i = .int .i64 (k : Int) ∧ hv = .bool (lastE (L.take k) hash).isSome ∧ Hid (Below g W7 wr ∧ BlkIs wr g 26 #[.int .i64 ((lastE (L.take k) hash).getD (0, 0, 0)).1, .int .i64 ((lastE (L.take k) hash).getD (0, 0, 0)).2.1, .int .i64 ((lastE (L.take k) hash).getD (0, 0, 0)).2.2])) (fun _ i _ => L.length - (intOf i).toNat)
  case atStart => exact ⟨0, Nat.zero_le _, rfl, rfl, Lib.hid ⟨Below.refl _ _, HG.out⟩⟩
  case round =>
    obtain ⟨k, hk, rfl, rfl, HI⟩ := hrel
    rename World => wo
    have hk0 : 0 ≤ (k : Int) := by omega
    have hkk : (k : Int) ≤ 40 := by omega
    have hwo := HI.out.1.size
    have Oo := Lib.hid (own_below O7.out HI.out.1 Hqg.out)
    have To := Lib.hid (N7.out.is.belowG HI.out.1 hTg Hrg.out)
    have HBo : Below W.heap.size W wo := N7.out.bel.trans (HI.out.1.mono hWg)
    have HBo := Lib.hid HBo
    by_cases hlt : k < L.length
    · obtain ⟨q, c, hv', _, hq⟩ := Oo.out.form (by omega)
      injection hv' with hv1 hv2 hv3
      subst hv1 hv3
      obtain ⟨p, hp⟩ : ∃ p, L[k]? = some p := ⟨_, List.getElem?_eq_getElem hlt⟩
      have hsn := last_snoc L hash k p hp
      have hmem := find_mem (List.mem_of_getElem? hp)
      have Hsn := Lib.hid hsn
      have hlt' : (k : Int) < (L.length : Int) := by omega
      have hq7 : q < g := Hqg.out q rfl
      have hfl := find_le L p.1 p.2.1
      have hprev : 0 < k → ∃ o, L[k - 1]? = some o ∧ ltE o p = true := fun h0 => by
        refine ⟨L[k - 1], List.getElem?_eq_getElem (by omega), ?_⟩
        have := List.pairwise_iff_getElem.1 Hso.out (k - 1) k (by omega) hlt (by omega)
        rwa [(List.getElem?_eq_some_iff.1 hp).2] at this
      have Hprev := Lib.hid hprev
      have Hp := Lib.hid hp
      obtain ⟨x0, x1, x2⟩ := p
      dsimp only at hfl hmem
      have Hmem := Lib.hid hmem
      have hS0 : ∀ wx, Below wo.heap.size wo wx → wx.cell? ⟨q, k * 3, none⟩ = some (.int .i64 x0) ∧ wx.cell? ⟨q, k * 3 + 1, none⟩ = some (.int .i64 x1) ∧ wx.cell? ⟨q, k * 3 + 2, none⟩ = some (.int .i64 x2) := fun wx h => by
        have Ox := own_below Oo.out h (fun q hq => (Oo.out.lt q hq).2)
        exact ⟨(Ox.cellAt (k * 3) (by omega)).trans (enVs_get L k 0 _ Hp.out (by omega)), (Ox.cellAt (k * 3 + 1) (by omega)).trans (enVs_get L k 1 _ Hp.out (by omega)), (Ox.cellAt (k * 3 + 2) (by omega)).trans (enVs_get L k 2 _ Hp.out (by omega))⟩
      have HS := Lib.hid hS0
      clear hS0 hsn hmem hprev hp
      have HB := Below.refl wo.heap.size wo
      have hS := HS.out _ HB
      go_wp2_with fail
      go_region_held3 (fun wx => wx.cell? ⟨q, k * 3, none⟩ = some (.int .i64 x0) ∧ wx.cell? ⟨q, k * 3 + 1, none⟩ = some (.int .i64 x1) ∧ wx.cell? ⟨q, k * 3 + 2, none⟩ = some (.int .i64 x2)) (first | exact hS | go_keep) ((first
        | (go_at_call 13; refine (find_any W.heap.size T r L _ _ _ (To.out.below (by first | exact HB | exact below_drewN HB 1)) (by omega)).mono ?_; rintro e wx ⟨u2, rfl, hown5, hb⟩; have HB := HB.trans ((by first | exact hb | exact below_undrew hb : Below _ _ _).mono HB.size); have hS := HS.out _ HB; obtain ⟨A2, c2, rfl, _⟩ := own_slice hown5)))
      have Hown5 := Lib.hid hown5
      have HB5 := Lib.hid HB
      clear hown5 hS HB
      obtain ⟨zs, hzs⟩ : ∃ zs, zs = findE L x0 x1 := ⟨_, rfl⟩
      rw [← hzs] at Hown5 Hmem hfl
      rw [← hzs]
      clear hzs
      rename World => wf
      have hsz : (zs.length : Int) ≤ 40 := by omega
      go_wp2_with fail
      go_loopw [11, 12] (fun th i wr => ∃ (j m : Nat), j ≤ zs.length ∧ i = .int .i64 (j : Int) ∧ th = .bool (decide (x2 ∈ zs.take j)) ∧ wr = wf.drewN m) (fun _ i _ => zs.length - (intOf i).toNat)
      case atStart => exact ⟨0, 0, Nat.zero_le _, rfl, by simp, rfl⟩
      case round =>
        obtain ⟨j, m, hj, rfl, rfl, rfl⟩ := hrel
        have hj0 : 0 ≤ (j : Int) := by omega
        obtain ⟨s0, s1, s2⟩ := HS.out _ HB5.out
        by_cases hlj : j < zs.length
        · obtain ⟨qz, cz, hvz, _, hqz⟩ := Hown5.out.form (by omega)
          injection hvz with hv1 hv2 hv3
          subst hv1 hv3
          obtain ⟨z, hz⟩ : ∃ z, zs[j]? = some z := ⟨_, List.getElem?_eq_getElem hlj⟩
          have z0 := (Hown5.out.cellAt j (by omega)).trans (intVs_at hz)
          have Hms := Lib.hid (mem_snoc zs j z x2 hz)
          have hlj' : (j : Int) < (zs.length : Int) := by omega
          clear hz
          cases hb : decide (x2 ∈ zs.take j) with
          | true =>
            rw [hb] at Hms
            clear hb
            go_wp2_with fail
            go_quiet (fail)
            go_wp2_with fail
            go_roundw
            case rel => exact ⟨j + 1, _, by omega, by go_num, by rw [Hms.out]; rfl, rfl⟩
            case measure => simp [intOf]; omega
          | false =>
            rw [hb] at Hms
            clear hb
            go_wp2_with fail
            go_quiet (fail)
            go_wp2_with fail
            go_roundw
            case rel => exact ⟨j + 1, _, by omega, by go_num, by rw [Hms.out]; simp, rfl⟩
            case measure => simp [intOf]; omega
        · obtain rfl : j = zs.length := by omega
          have htk : decide (x2 ∈ zs.take zs.length) = true := by rw [List.take_length]; exact decide_eq_true Hmem.out
          rw [htk]
          clear htk
          have hdj : decide (zs.length < zs.length) = false := by simp
          by_cases h0 : k = 0
          · have hd18 : decide (0 < (k : Int)) = false := by simp; omega
            have hd18' : decide (0 < k) = false := by simp; omega
            clear h0
            go_wp2_with fail
            go_quiet (fail)
            have HB7 := HB5.out
            have HB9 := Lib.hid HB7
            obtain ⟨t0, t1, t2⟩ := HS.out _ HB9.out
            have hG9 := HI.out.2.below HB9.out (by omega)
            have e0 := hG9.cell 0; have e1 := hG9.cell 1; have e2 := hG9.cell 2
            have f0 := hG9.free 0; have f1 := hG9.free 1; have f2 := hG9.free 2
            have hBg := (HI.out.1.trans (HB9.out.mono (by omega : g ≤ wo.heap.size)))
            have HG9 := Lib.hid hG9; have HBg := Lib.hid hBg
            clear hG9 hBg HB7
            by_cases hh : x0 = hash
            · have hd20 : (x0 == hash) = true := by simpa using hh
              have Hh := Lib.hid hh; clear hh
              go_wp2_with fail
              go_roundw
              case rel =>
                refine ⟨k + 1, by omega, by go_num, by rw [Hsn.out, if_pos Hh.out]; rfl, Lib.hid ⟨((((below_drewN HBg.out _).setCell (p := ⟨g, 0, none⟩) (Nat.le_refl _) (.int .i64 x0)).setCell (p := ⟨g, 1, none⟩) (Nat.le_refl _) (.int .i64 x1)).setCell (p := ⟨g, 2, none⟩) (Nat.le_refl _) (.int .i64 x2)), ?_⟩⟩
                rw [Hsn.out, if_pos Hh.out]
                exact ((((HG9.out.drewN _).put 0 (.int .i64 x0)).put 1 (.int .i64 x1)).put 2 (.int .i64 x2))
              case measure => simp [intOf]; omega
            · have hd20 : (x0 == hash) = false := by simpa using hh
              have Hh := Lib.hid hh; clear hh
              go_wp2_with fail
              go_roundw
              case rel =>
                refine ⟨k + 1, by omega, by go_num, by rw [Hsn.out, if_neg Hh.out], Lib.hid ⟨(below_drewN HBg.out _), ?_⟩⟩
                rw [Hsn.out, if_neg Hh.out]
                exact (HG9.out.drewN _)
              case measure => simp [intOf]; omega
          · have hd18 : decide (0 < (k : Int)) = true := by simp; omega
            obtain ⟨⟨y0, y1, y2⟩, hy, hlty⟩ := Hprev.out (by omega)
            have Hy := Lib.hid hy; have Hlty := Lib.hid hlty
            have hS1 : ∀ wx, Below wo.heap.size wo wx → wx.cell? ⟨q, k * 3, none⟩ = some (.int .i64 x0) ∧ wx.cell? ⟨q, k * 3 + 1, none⟩ = some (.int .i64 x1) ∧ wx.cell? ⟨q, k * 3 + 2, none⟩ = some (.int .i64 x2) ∧ wx.cell? ⟨q, (k - 1) * 3, none⟩ = some (.int .i64 y0) ∧ wx.cell? ⟨q, (k - 1) * 3 + 1, none⟩ = some (.int .i64 y1) ∧ wx.cell? ⟨q, (k - 1) * 3 + 2, none⟩ = some (.int .i64 y2) := fun wx h => by
              have Ox := own_below Oo.out h (fun q hq => (Oo.out.lt q hq).2)
              obtain ⟨a0, a1, a2⟩ := HS.out _ h
              exact ⟨a0, a1, a2, (Ox.cellAt ((k - 1) * 3) (by omega)).trans (enVs_get L (k - 1) 0 _ Hy.out (by omega)), (Ox.cellAt ((k - 1) * 3 + 1) (by omega)).trans (enVs_get L (k - 1) 1 _ Hy.out (by omega)), (Ox.cellAt ((k - 1) * 3 + 2) (by omega)).trans (enVs_get L (k - 1) 2 _ Hy.out (by omega))⟩
            have HS1 := Lib.hid hS1
            have hless := fun w => less_any (y0, y1, y2) (x0, x1, x2) w
            rw [Hlty.out] at hless
            unfold enA at hless
            dsimp only at hless
            have Hless := Lib.hid hless
            have hi1 : (k : Int) - 1 = ((k - 1 : Nat) : Int) := by omega
            have hi0 : 0 < k := by omega
            have hw1 : IntKind.i64.wrap ((k : Int) - 1) = ((k - 1 : Nat) : Int) := by rw [IntWalk.i64_in _ (by omega)]; omega
            have hl1 : ((k - 1 : Nat) : Int) < (L.length : Int) := by omega
            have hl0 : 0 ≤ ((k - 1 : Nat) : Int) := by omega
            have hl2 : k - 1 < L.length := by omega
            have hw2 : IntKind.i64.wrap ((k - 1 : Nat) : Int) = ((k - 1 : Nat) : Int) := IntWalk.i64_in _ (by omega)
            clear h0
            clear hy hlty hS1 hless s0 s1 s2
            have HB := below_drewN HB5.out m
            have hS := HS1.out _ HB
            go_wp2_with fail
            go_region_held3 (fun wx => wx.cell? ⟨q, k * 3, none⟩ = some (.int .i64 x0) ∧ wx.cell? ⟨q, k * 3 + 1, none⟩ = some (.int .i64 x1) ∧ wx.cell? ⟨q, k * 3 + 2, none⟩ = some (.int .i64 x2) ∧ wx.cell? ⟨q, (k - 1) * 3, none⟩ = some (.int .i64 y0) ∧ wx.cell? ⟨q, (k - 1) * 3 + 1, none⟩ = some (.int .i64 y1) ∧ wx.cell? ⟨q, (k - 1) * 3 + 2, none⟩ = some (.int .i64 y2)) (first | exact hS | go_keep) ((first
              | (go_at_call 14; refine (Hless.out _).mono ?_; rintro e wx ⟨rfl, hb⟩; have HB := HB.trans ((by first | exact hb | exact below_undrew hb : Below _ _ _).mono HB.size); have hS := HS1.out _ HB)))
            have HB7 := HB
            have HB9 := Lib.hid HB7
            obtain ⟨t0, t1, t2⟩ := HS.out _ HB9.out
            have hG9 := HI.out.2.below HB9.out (by omega)
            have e0 := hG9.cell 0; have e1 := hG9.cell 1; have e2 := hG9.cell 2
            have f0 := hG9.free 0; have f1 := hG9.free 1; have f2 := hG9.free 2
            have hBg := (HI.out.1.trans (HB9.out.mono (by omega : g ≤ wo.heap.size)))
            have HG9 := Lib.hid hG9; have HBg := Lib.hid hBg
            clear hG9 hBg HB7
            by_cases hh : x0 = hash
            · have hd20 : (x0 == hash) = true := by simpa using hh
              have Hh := Lib.hid hh; clear hh
              go_wp2_with fail
              go_roundw
              case rel =>
                refine ⟨k + 1, by omega, by go_num, by rw [Hsn.out, if_pos Hh.out]; rfl, Lib.hid ⟨(((HBg.out.setCell (p := ⟨g, 0, none⟩) (Nat.le_refl _) (.int .i64 x0)).setCell (p := ⟨g, 1, none⟩) (Nat.le_refl _) (.int .i64 x1)).setCell (p := ⟨g, 2, none⟩) (Nat.le_refl _) (.int .i64 x2)), ?_⟩⟩
                rw [Hsn.out, if_pos Hh.out]
                exact (((HG9.out.put 0 (.int .i64 x0)).put 1 (.int .i64 x1)).put 2 (.int .i64 x2))
              case measure => simp [intOf]; omega
            · have hd20 : (x0 == hash) = false := by simpa using hh
              have Hh := Lib.hid hh; clear hh
              go_wp2_with fail
              go_roundw
              case rel =>
                refine ⟨k + 1, by omega, by go_num, by rw [Hsn.out, if_neg Hh.out], Lib.hid ⟨HBg.out, ?_⟩⟩
                rw [Hsn.out, if_neg Hh.out]
                exact HG9.out
              case measure => simp [intOf]; omega
    · obtain rfl : k = L.length := by omega
      rw [List.take_length] at HI ⊢
      have hd : decide (L.length < L.length) = false := by simp
      have hla := last_any W.heap.size T r L hash wo To.out (by omega)
      obtain ⟨p, hp⟩ : ∃ p, p = (lastE L hash).getD (0, 0, 0) := ⟨_, rfl⟩
      obtain ⟨b, hb⟩ : ∃ b, b = (lastE L hash).isSome := ⟨_, rfl⟩
      rw [← hp] at HI
      rw [← hp, ← hb] at hla
      rw [← hb]
      clear hp hb
      obtain ⟨p0, p1, p2⟩ := p
      unfold enA at hla
      dsimp only at hla HI
      have Hla := Lib.hid hla
      have HG0 := Lib.hid HI.out.2
      clear hla hlt HI
      go_wp2_with fail
      refine Hla.out.mono ?_
      rintro e w5 ⟨rfl, hb5⟩
      have HB5 := Lib.hid (HBo.out.trans (hb5.mono HBo.out.size))
      have HG5 := Lib.hid (HG0.out.below hb5 (by omega))
      have hg5 : g < w5.heap.size := Nat.lt_of_lt_of_le (by omega : g < wo.heap.size) hb5.size
      clear hb5
      go_wp2_with fail
      obtain ⟨W8, hW8⟩ : ∃ V, w5.alloc (.cells #[.int .i64 p0, .int .i64 p1, .int .i64 p2] 26) = V := ⟨_, rfl⟩
      (try rw [hW8])
      have hE : BlkIs W8 w5.heap.size 26 #[.int .i64 p0, .int .i64 p1, .int .i64 p2] := by rw [← hW8]; exact BlkIs.new _ _ _
      have hb8 : Below w5.heap.size w5 W8 := by rw [← hW8]; exact (Below.refl _ _).alloc (Nat.le_refl _) _
      have HB8 := Lib.hid (HB5.out.trans (hb8.mono HB5.out.size))
      have HG8 := Lib.hid (HG5.out.below hb8 hg5)
      have HE8 := Lib.hid hE
      clear hb8 hE hW8
      refine (alive12_any _).mono ?_
      rintro e w6 ⟨rfl, hb6⟩
      have HB6 := Lib.hid (HB8.out.trans (hb6.mono HB8.out.size))
      have hE6 := HE8.out.below hb6 HE8.out.lt
      have hG6 := HG8.out.below hb6 (Nat.lt_trans hg5 HE8.out.lt)
      have a0 := hE6.cell 0; have a1 := hE6.cell 1; have a2 := hE6.cell 2
      have b0 := hG6.cell 0; have b1 := hG6.cell 1; have b2 := hG6.cell 2
      have hEq : ∀ w, (binOp .eql 26 (.agg #[.int .i64 p0, .int .i64 p1, .int .i64 p2]) (.agg #[.int .i64 p0, .int .i64 p1, .int .i64 p2])).run Try.prog w = .ok (.bool true) w := fun w => by rw [run_eql_en]; simp
      clear hb6 hE6 hG6
      go_wp2_with fail
      go_ret
      exact ⟨rfl, HB6.out⟩
end Go.Proofs.Ytgaeoglhammjiaa
