/- chapter 13: TableMerges, walked (printed by mkmerges13.py). -/
import Derived.Test.YtfkkcgdniepgoaaGreatCTableMergesMergeAt
import Derived.Test.YtfkkcgdniepgoaaGreatCTableMergesTblNil
import Derived.Test.YtfkkcgdniepgoaaGreatJTableMerges7
import Derived.Test.YtfkkcgdniepgoaaGreatCTableMergesPlain12
import Derived.Test.YtfkkcgdniepgoaaGreatJTableMerges14
import Derived.Test.YtfkkcgdniepgoaaGreatCTableMergesEnBook

namespace Go.Proofs.YtfkkcgdniepgoaaGreat
open Go.RowKit
set_option maxHeartbeats 8000000
set_option maxRecDepth 100000
set_option linter.unusedVariables false

theorem info_pT : (Tryz.prog.info? 41).map (fun i => (i.zero, i.size, i.bytes)) = some (some (.pointer none), 1, 8) := by kernel_rfl
theorem info_rR : (Tryz.prog.info? 24).map (fun i => (i.zero, i.size, i.bytes)) = some (some (.slice none 0 0), 1, 24) := by kernel_rfl
theorem TblIs.lower {w : World} {base b g : Nat} {l : List En} (h : TblIs w base g l) (hb : b ≤ base) : TblIs w b g l := by
  obtain ⟨v, h1, h2, h3⟩ := h
  exact ⟨v, h1, Nat.le_trans hb h2, own_mono h3 hb⟩

theorem tableMerges_any (A1 A2 A3 : Option Addr) (n1 n2 n3 c1 c2 c3 : Nat) (l1 l2 l3 : List En) (z : Bool) (W : World) (h1 : SlR W W.heap.size 3 A1 n1 (enVs l1)) (h2 : SlR W W.heap.size 3 A2 n2 (enVs l2)) (h3 : SlR W W.heap.size 3 A3 n3 (enVs l3)) (hm1 : n1 ≤ 9223372036854775807) (hm2 : n2 ≤ 9223372036854775807) (hm3 : n3 ≤ 9223372036854775807) :
    Calls Tryz.prog 4 #[.slice A1 n1 c1, .slice A2 n2 c2, .slice A3 n3 c3, .bool z] W fun e w' => e = .returned (.bool true) ∧ Below W.heap.size W w' := by
  by_cases g1 : 30 < n1
  · have q1' : decide ((30 : Int) < (n1 : Int)) = true := by rw [decide_eq_true_iff]; omega
    clear h1 h2 h3
    go_enter Tryz.func4, Tryz.ntmps4
    go_wp2_with fail
    refine (alive13_any _).mono ?_
    rintro e w1 ⟨rfl, hb1⟩
    go_wp2_with fail
    go_ret
    exact ⟨rfl, hb1⟩
  by_cases g2 : 30 < n2
  · have q1' : decide ((30 : Int) < (n1 : Int)) = false := by rw [decide_eq_false_iff_not]; omega
    have q2' : decide ((30 : Int) < (n2 : Int)) = true := by rw [decide_eq_true_iff]; omega
    clear h1 h2 h3
    go_enter Tryz.func4, Tryz.ntmps4
    go_wp2_with fail
    refine (alive13_any _).mono ?_
    rintro e w1 ⟨rfl, hb1⟩
    go_wp2_with fail
    go_ret
    exact ⟨rfl, hb1⟩
  by_cases g3 : 30 < n3
  · have q1' : decide ((30 : Int) < (n1 : Int)) = false := by rw [decide_eq_false_iff_not]; omega
    have q2' : decide ((30 : Int) < (n2 : Int)) = false := by rw [decide_eq_false_iff_not]; omega
    have q3' : decide ((30 : Int) < (n3 : Int)) = true := by rw [decide_eq_true_iff]; omega
    clear h1 h2 h3
    go_enter Tryz.func4, Tryz.ntmps4
    go_wp2_with fail
    refine (alive13_any _).mono ?_
    rintro e w1 ⟨rfl, hb1⟩
    go_wp2_with fail
    go_ret
    exact ⟨rfl, hb1⟩
  have q1' : decide ((30 : Int) < (n1 : Int)) = false := by rw [decide_eq_false_iff_not]; omega
  have q2' : decide ((30 : Int) < (n2 : Int)) = false := by rw [decide_eq_false_iff_not]; omega
  have q3' : decide ((30 : Int) < (n3 : Int)) = false := by rw [decide_eq_false_iff_not]; omega
  obtain ⟨i0, hi0, hz0, hz1, hz2⟩ := info_parts info_pT
  obtain ⟨j0, hj0, hy0, hy1, hy2⟩ := info_parts info_rR
  have hrow : ∀ k : Nat, k < 3 → ∃ (A : Option Addr) (n c : Nat) (l : List En), (#[Value.slice A1 n1 c1, .slice A2 n2 c2, .slice A3 n3 c3] : Array Value)[k]? = some (.slice A n c) ∧ SlR W W.heap.size 3 A n (enVs l) ∧ n ≤ 30 := fun k hk => by
    match k, hk with
    | 0, _ => exact ⟨A1, n1, c1, l1, rfl, h1, by omega⟩
    | 1, _ => exact ⟨A2, n2, c2, l2, rfl, h2, by omega⟩
    | 2, _ => exact ⟨A3, n3, c3, l3, rfl, h3, by omega⟩
  have Hrow := Lib.hid hrow
  clear h1 h2 h3 hrow g1 g2 g3
  go_enter Tryz.func4, Tryz.ntmps4
  go_wp2_with fail
  refine (alive13_any _).mono ?_
  rintro e w1 ⟨rfl, hb1⟩
  have Hb1 := Lib.hid hb1
  clear hb1
  go_wp2_with fail
  obtain ⟨V, hV⟩ : ∃ V, w1.alloc (.cells #[.slice A1 n1 c1, .slice A2 n2 c2, .slice A3 n3 c3] 22) = V := ⟨_, rfl⟩
  rw [hV]
  have hVB : BlkIs V w1.heap.size 22 #[.slice A1 n1 c1, .slice A2 n2 c2, .slice A3 n3 c3] := by rw [← hV]; exact BlkIs.new _ _ _
  have hbV : Below W.heap.size W V := by rw [← hV]; exact Hb1.out.alloc Hb1.out.size _
  have HVB := Lib.hid hVB; have HbV := Lib.hid hbV
  have hVl := hVB.lt
  clear hV hVB hbV
  go_loopw [9, 10, 46] (fun o p i wr => ∃ (k : Nat) (lv rv : Value) (ts : List (Nat × List En)) (rs : List (Value × List En)), lv = o ∧ rv = p ∧ k ≤ 3 ∧ i = .int .i64 (k : Int) ∧ Hid (MergeAt W wr lv rv ts rs ∧ BlkIs wr w1.heap.size 22 #[.slice A1 n1 c1, .slice A2 n2 c2, .slice A3 n3 c3] ∧ (rs.map fun r => r.2) = (ts.map fun t => t.2) ∧ (∀ t ∈ ts, mayT t.2 = true) ∧ (flatE ts).length ≤ 30 * k ∧ ts.length ≤ k)) (fun _ _ i _ => 3 - (intOf i).toNat)
  case atStart => exact ⟨0, _, _, [], [], rfl, rfl, Nat.zero_le _, rfl, Lib.hid ⟨MergeAt.nil HbV.out, HVB.out, rfl, fun _ h => (by cases h), Nat.le_refl _, Nat.le_refl _⟩⟩
  case round =>
    obtain ⟨k, lv, rv, ts, rs, rfl, rfl, hk, rfl, HI⟩ := hrel
    have hk0 : 0 ≤ (k : Int) := by omega
    by_cases hlt : k < 3
    · have hlt' : (k : Int) < 3 := by omega
      have hlt2 : decide ((k : Int) < 3) = true := decide_eq_true hlt'
      obtain ⟨A, n, c, l, hget, hrl, hn30⟩ := Hrow.out k hlt
      have hcell := (HI.out.2.1.cell k).trans hget
      have hll : l.length = n := by have := hrl.len; rw [enVs_length] at this; omega
      subst hll
      have hM := HI.out.1
      have hbuild := build_any A l.length c W.heap.size l wr (hrl.below hM.bel) hM.bel.size (by omega)
      have Hrl := Lib.hid hrl
      have hlen1 : ts.length ≤ 3 := by have := HI.out.2.2.2.2.2; omega
      have hlen2 : rs.length ≤ 3 := by have := congrArg List.length HI.out.2.2.1; simp only [List.length_map] at this; omega
      clear hrl hget
      cases hmay : mayT l with
      | false =>
        rw [buildT_no hmay] at hbuild
        have Hbuild := Lib.hid hbuild
        have HM := Lib.hid hM
        clear hbuild hmay hM
        go_wp2_with fail
        refine Hbuild.out.mono ?_
        rintro x w5 ⟨rfl, hb5⟩
        have hfin := Lib.hid (And.intro (HM.out.under hb5) (And.intro (HI.out.2.1.below hb5 HI.out.2.1.lt) HI.out.2.2))
        clear hb5 HM
        go_wp2_with fail
        go_roundw
        case rel => exact ⟨k + 1, lv, rv, ts, rs, rfl, rfl, by omega, by go_num, Lib.hid ⟨hfin.out.1, hfin.out.2.1, hfin.out.2.2.1, hfin.out.2.2.2.1, by have := hfin.out.2.2.2.2.1; omega, by have := hfin.out.2.2.2.2.2; omega⟩⟩
        case measure => simp [intOf]; omega
      | true =>
        rw [buildT_yes hmay] at hbuild
        have Hmay := Lib.hid hmay
        have Hopn := Lib.hid (openT_build l hmay (by omega))
        have Hsl := Lib.hid (sealT_length l)
        have Hbuild := Lib.hid hbuild
        have HM := Lib.hid hM
        clear hbuild hmay hM
        generalize sealT l = sl at Hopn Hsl Hbuild
        go_wp2_with fail
        refine Hbuild.out.mono ?_
        rintro x w5 ⟨rfl, hb5⟩
        have hopen := tblOpen_any ⟨sl.toArray⟩ w5 (by rw [size_mk, Hsl.out]; omega)
        rw [show openT (ByteArray.mk sl.toArray).data.toList = (l, 0) from Hopn.out] at hopen
        have Hopen := Lib.hid hopen
        have HM5 := Lib.hid (HM.out.under hb5)
        have HV5 := Lib.hid (HI.out.2.1.below hb5 HI.out.2.1.lt)
        clear hopen hb5 Hbuild HM
        go_wp2_with fail
        refine Hopen.out.mono ?_
        rintro x w6 ⟨p, rfl, _, hq, hb6⟩
        obtain ⟨g, rfl, hT6⟩ := hq trivial
        have hM6 := HM5.out.under hb6
        have HT6 := Lib.hid (hT6.lower HM5.out.bel.size)
        have HV6 := Lib.hid (HV5.out.below hb6 HV5.out.lt)
        have hlo := hM6.lo
        obtain ⟨La, Lc, rfl, hLc⟩ := own_slice hlo
        have Hlo := Lib.hid hlo
        have HM6 := Lib.hid hM6
        have hs6 := hM6.bel.size
        clear hT6 hq hb6 hM6 hlo HM5 HV5 Hopen
        go_wp2_with (at_builtin; refine wpList_append_lies _ rfl (.tmp 64) (.tmp 66) _ rfl W.heap.size 41 i0 _ 1 8 Tryz.underlying66 hi0 hz0 hz1 hz2 rfl (by omega) (.slice La ts.length Lc) ts.length (tblPs ts) rfl (Hlo.out.alloc _) ⟨w6.heap.size, 0, none⟩ 1 1 [.pointer (some ⟨g, 0, none⟩)] rfl rfl (World.news_of_block (cs := #[.pointer (some ⟨g, 0, none⟩)]) (heap_alloc_new w6 _)) (by simp [Value.oneCell']) (by omega) (by simp only [maxLen]; omega) (by omega) (by simp <;> omega) (w6.heap.size + 1) (by simp) ?_; intro g7 c7 w7 hown7 hgrow7 hat7 hlt7)
        have hba : Below w6.heap.size w6 (w6.alloc (.cells #[.pointer (some ⟨g, 0, none⟩)] 41)) := (Below.refl _ _).alloc (Nat.le_refl _) _
        have hM7 := (HM6.out.under hba).addL hown7 hgrow7 (HT6.out.below hba (Nat.le_refl _))
        have hV7 := (HV6.out.below hba HV6.out.lt).grown hgrow7 (Ne.symm (own_ne_blk (HM6.out.under hba).lo (HV6.out.below hba HV6.out.lt) (by decide)))
        have HM7 := Lib.hid hM7; have HV7 := Lib.hid hV7
        have hpl := plain12_any A l.length c W.heap.size l w7 (Hrl.out.below hM7.bel) hM7.bel.size (by omega)
        have Hpl := Lib.hid hpl
        obtain ⟨lv7, hlv7⟩ : ∃ v, Value.slice (some ⟨g7, 0, none⟩) (ts.length + 1) c7 = v := ⟨_, rfl⟩
        rw [hlv7] at HM7 ⊢
        clear hown7 hgrow7 hat7 hlt7 hba hM7 hV7 hpl HM6 HV6 HT6 Hlo hlv7
        refine Hpl.out.mono ?_
        rintro x w8 ⟨u, rfl, hu8, hb8⟩
        have HM8 := Lib.hid (HM7.out.under hb8)
        have HV8 := Lib.hid (HV7.out.below hb8 HV7.out.lt)
        have Hu8 := Lib.hid (own_mono hu8 HM7.out.bel.size)
        have hro := HM8.out.ro
        obtain ⟨Ra, Rc, rfl, hRc⟩ := own_slice hro
        obtain ⟨Ua, Uc, rfl, hUc⟩ := own_slice Hu8.out
        have Hro := Lib.hid hro
        have hs8 := HM8.out.bel.size
        clear hu8 hb8 hro HM7 HV7 Hpl
        go_wp2_with (at_builtin; refine wpList_append_lies _ rfl (.tmp 68) (.tmp 71) _ rfl W.heap.size 24 j0 _ 1 24 Tryz.underlying67 hj0 hy0 hy1 hy2 rfl (by omega) (.slice Ra rs.length Rc) rs.length (rs.map fun r => r.1) rfl (Hro.out.alloc _) ⟨w8.heap.size, 0, none⟩ 1 1 [.slice Ua l.length Uc] rfl rfl (World.news_of_block (cs := #[.slice Ua l.length Uc]) (heap_alloc_new w8 _)) (by simp [Value.oneCell']) (by omega) (by simp only [maxLen]; omega) (by omega) (by simp <;> omega) (w8.heap.size + 1) (by simp) ?_; intro g9 c9 w9 hown9 hgrow9 hat9 hlt9)
        have hba : Below w8.heap.size w8 (w8.alloc (.cells #[.slice Ua l.length Uc] 24)) := (Below.refl _ _).alloc (Nat.le_refl _) _
        have hM9 := (HM8.out.under hba).addR hown9 hgrow9 (own_below Hu8.out hba (fun q hq => (Hu8.out.lt q hq).2))
        have hV9 := (HV8.out.below hba HV8.out.lt).grown hgrow9 (Ne.symm (own_ne_blk (HM8.out.under hba).ro (HV8.out.below hba HV8.out.lt) (by decide)))
        have hfin := Lib.hid (And.intro hM9 hV9)
        clear hown9 hgrow9 hat9 hlt9 hba hM9 hV9 HM8 HV8 Hu8 Hro
        go_wp2_with fail
        go_roundw
        case rel => exact ⟨k + 1, lv7, _, ts ++ [(g, l)], rs ++ [(.slice Ua l.length Uc, l)], rfl, rfl, by omega, by go_num, Lib.hid ⟨hfin.out.1, hfin.out.2, by rw [List.map_append, List.map_append, HI.out.2.2.1]; rfl, fun t ht => by
          rcases List.mem_append.1 ht with h | h
          · exact HI.out.2.2.2.1 t h
          · simp at h; subst h; exact Hmay.out, by
          have h1 := HI.out.2.2.2.2.1
          unfold flatE at h1 ⊢
          rw [List.flatMap_append, List.length_append]
          simp only [List.flatMap_cons, List.flatMap_nil, List.append_nil]
          omega, by have := HI.out.2.2.2.2.2; rw [List.length_append]; simp; omega⟩⟩
        case measure => simp [intOf]; omega
    · obtain rfl : k = 3 := by omega
      have hd : decide ((3 : Int) < 3) = false := by decide
      have HM := Lib.hid HI.out.1; have Heq := Lib.hid HI.out.2.2.1; have Hmy := Lib.hid HI.out.2.2.2.1
      have hfl := HI.out.2.2.2.2.1
      have hln := HI.out.2.2.2.2.2
      have hlen2 : rs.length ≤ 3 := by have := congrArg List.length HI.out.2.2.1; simp only [List.length_map] at this; omega
      clear HI
      obtain ⟨La, Lc, rfl, hLc⟩ := own_slice HM.out.lo
      obtain ⟨Ra, Rc, rfl, hRc⟩ := own_slice HM.out.ro
      have hs := HM.out.bel.size
      cases z with
      | false =>
        have Hmg := Lib.hid (mergeT_any La ts.length Lc wr.heap.size W.heap.size ts wr (SlR.own HM.out.lo) (Nat.le_refl _) HM.out.tt (by omega) (by omega))
        go_wp2_with fail
        refine Hmg.out.mono ?_
        rintro x w2 ⟨u, l', rfl, hp, ho, hu, hb2⟩
        rw [merged_eq hp ho (okE_flat Hmy.out)] at hu
        have HM2 := Lib.hid (HM.out.under hb2)
        obtain ⟨M, hM⟩ : ∃ M, M = addsE [] (flatE ts) := ⟨_, rfl⟩
        have hMl := (adds_le [] (flatE ts)).2
        rw [← hM] at hu hMl
        simp only [List.length_nil, Nat.zero_add] at hMl
        have hfr := flat_same Heq.out
        have HMe := Lib.hid (show M = addsE [] (flatR rs) from by rw [hfr]; exact hM)
        obtain ⟨Ma, Mc, rfl, hMc⟩ := own_slice hu
        have Hu := Lib.hid (own_mono hu HM.out.bel.size)
        clear hp ho hu hb2 hM Hmg
        go_wp2_with fail
        obtain ⟨w3, hw3⟩ : ∃ w3, w2.alloc (.cells #[.slice none 0 0, .slice none 0 0, .slice none 0 0, .slice none 0 0, .slice none 0 0, .slice none 0 0, .slice none 0 0, .slice none 0 0, .slice none 0 0, .slice none 0 0, .slice none 0 0, .slice none 0 0] 40) = w3 := ⟨_, rfl⟩
        have hB3 : BlkIs w3 w2.heap.size 40 (bookIE (.slice none 0 0) (.slice none 0 0) (.slice none 0 0) (.slice none 0 0)) := by rw [← hw3]; exact BlkIs.new _ _ _
        have h23 : Below w2.heap.size w2 w3 := by rw [← hw3]; exact (Below.refl _ _).alloc (Nat.le_refl _) _
        rw [hw3]
        have HB3 := Lib.hid hB3; have H23 := Lib.hid h23
        clear hw3 hB3 h23
        refine (bookOne_any w2.heap.size W.heap.size M.length _ M w3 HB3.out (Nat.le_trans HM2.out.bel.size (Nat.le_of_lt HB3.out.lt)) HM2.out.bel.size (own_below Hu.out H23.out (fun q hq => (Hu.out.lt q hq).2)) (by omega)).mono ?_
        rintro x w4 ⟨rfl, hb4, hs4, _, _, hap4⟩
        have Hap4 := Lib.hid hap4
        have hb24 := H23.out.trans hb4
        have HM4 := Lib.hid (HM2.out.under hb24)
        have Hu4 := Lib.hid (own_below Hu.out hb24 (fun q hq => (Hu.out.lt q hq).2))
        have hrm := refMerge_any Ra rs.length Rc w4.heap.size rs w4 (SlR.own HM4.out.ro) (Nat.le_refl _) (fun t ht => by
          have h1 := HM4.out.rr t ht
          obtain ⟨Ta, Tc, h2, _⟩ := own_slice h1
          rw [h2] at h1
          exact ⟨Ta, Tc, h2, SlR.own h1⟩) (by omega) (by rw [hfr]; omega)
        rw [← HMe.out] at hrm
        have Hrm := Lib.hid hrm
        clear hb4 hap4 hb24 hrm hfr Hu HM2 HB3 H23
        go_wp2_with fail
        refine Hrm.out.mono ?_
        rintro x w5 ⟨A5, c5, rfl, h5, hb5⟩
        have Hrl := Lib.hid (real12_any A5 M.length c5 w5.heap.size M w5 h5 (Nat.le_refl _) (by omega))
        have Hb5 := Lib.hid hb5
        clear h5 hb5 Hrm
        go_wp2_with fail
        refine Hrl.out.mono ?_
        rintro x w6 ⟨u6, rfl, hu6, hb6⟩
        obtain ⟨A6, c6, rfl, hc6⟩ := own_slice hu6
        have Hb6 := Lib.hid (Hb5.out.trans (hb6.mono Hb5.out.size))
        have Hse := Lib.hid (sameEntries_eq w6.heap.size w6.heap.size M.length Mc c6 Ma A6 M w6 ((SlR.own (own_below Hu4.out Hb6.out (fun q hq => (Hu4.out.lt q hq).2)))) (SlR.own hu6) (by omega))
        clear hu6 hb6 Hrl Hb5
        go_wp2_with fail
        refine Hse.out.mono ?_
        rintro x w7 ⟨rfl, k7, rfl⟩
        have Hap := Lib.hid (Hap4.out _ (below_drewN Hb6.out k7))
        have HbF := Lib.hid (HM4.out.bel.trans ((below_drewN Hb6.out k7).mono HM4.out.bel.size))
        clear Hse Hap4
        go_wp2_with fail
        refine Hap.out.mono ?_
        rintro x w8 ⟨rfl, hb8⟩
        go_wp2_with fail
        go_ret
        exact ⟨rfl, HbF.out.trans hb8⟩
      | true =>
        go_wp2_with (at_builtin; refine wpList_append_lies _ rfl (.tmp 75) (.tmp 77) _ rfl W.heap.size 41 i0 _ 1 8 Tryz.underlying66 hi0 hz0 hz1 hz2 rfl (by omega) (.slice La ts.length Lc) ts.length (tblPs ts) rfl (HM.out.lo.alloc _) ⟨wr.heap.size, 0, none⟩ 1 1 [.pointer none] rfl rfl (World.news_of_block (cs := #[.pointer none]) (heap_alloc_new wr _)) (by simp [Value.oneCell']) (by omega) (by simp only [maxLen]; omega) (by omega) (by simp <;> omega) (wr.heap.size + 1) (by simp) ?_; intro g7 c7 w7 hown7 hgrow7 hat7 hlt7)
        have hba : Below wr.heap.size wr (wr.alloc (.cells #[.pointer none] 41)) := (Below.refl _ _).alloc (Nat.le_refl _) _
        obtain ⟨ht7, hb7⟩ := (HM.out.under hba).addNil hown7 hgrow7
        have Hmg := Lib.hid (mergeNil_any _ (ts.length + 1) c7 w7.heap.size W.heap.size ts w7 (SlR.own hown7) (Nat.le_refl _) ht7 (by omega) (by omega))
        have Hb7 := Lib.hid hb7
        clear hown7 hgrow7 hat7 hlt7 hba ht7 hb7 HM
        refine Hmg.out.mono ?_
        rintro x w2 ⟨rfl, hb2⟩
        have Hb2 := Lib.hid (Hb7.out.trans (hb2.mono Hb7.out.size))
        clear hb2 Hmg
        go_wp2_with fail
        obtain ⟨w3, hw3⟩ : ∃ w3, w2.alloc (.cells #[.slice none 0 0, .slice none 0 0, .slice none 0 0, .slice none 0 0, .slice none 0 0, .slice none 0 0, .slice none 0 0, .slice none 0 0, .slice none 0 0, .slice none 0 0, .slice none 0 0, .slice none 0 0] 40) = w3 := ⟨_, rfl⟩
        have hB3 : BlkIs w3 w2.heap.size 40 (bookIE (.slice none 0 0) (.slice none 0 0) (.slice none 0 0) (.slice none 0 0)) := by rw [← hw3]; exact BlkIs.new _ _ _
        have h23 : Below w2.heap.size w2 w3 := by rw [← hw3]; exact (Below.refl _ _).alloc (Nat.le_refl _) _
        rw [hw3]
        have HB3 := Lib.hid hB3; have H23 := Lib.hid h23
        clear hw3 hB3 h23
        refine (bookOne_any w2.heap.size W.heap.size 0 _ [] w3 HB3.out (Nat.le_trans Hb2.out.size (Nat.le_of_lt HB3.out.lt)) Hb2.out.size (World.ownsRow_nil _ _ _ _) (by omega)).mono ?_
        rintro x w4 ⟨rfl, hb4, hs4, _, _, _⟩
        have Hb4 := Lib.hid (Hb2.out.trans ((H23.out.trans hb4).mono Hb2.out.size))
        clear hb4 HB3 H23
        have hLast := fun w => tblLastNil_any 0 w
        unfold enA at hLast
        dsimp only at hLast
        have HLast := Lib.hid hLast
        clear hLast
        go_wp2_with fail
        refine (HLast.out _).mono ?_
        rintro x w5 ⟨rfl, hb5⟩
        have Hb5 := Lib.hid (Hb4.out.trans (hb5.mono Hb4.out.size))
        clear hb5 HLast
        go_wp2_with fail
        obtain ⟨V5, hV5⟩ : ∃ V, w5.alloc (.cells #[.int .i64 0, .int .i64 0, .int .i64 0] 53) = V := ⟨_, rfl⟩
        have HV5 : Hid (Below W.heap.size W V5) := Lib.hid (by rw [← hV5]; exact Hb5.out.alloc Hb5.out.size _)
        rw [hV5]
        clear hV5 Hb5
        refine (tblLenNil_any _).mono ?_
        rintro x w6 ⟨rfl, rfl⟩
        go_wp2_with fail
        refine (tblAllNil_any _).mono ?_
        rintro x w6 ⟨rfl, rfl⟩
        go_wp2_with fail
        refine (tblMidsNil_any _).mono ?_
        rintro x w6 ⟨rfl, rfl⟩
        go_wp2_with fail
        refine (tblFindNil_any _ _ _).mono ?_
        rintro x w7 ⟨rfl, hb7⟩
        have HV7 := Lib.hid (HV5.out.trans (hb7.mono HV5.out.size))
        clear hb7
        go_wp2_with fail
        refine (tblRangeNil_any _ _ _ _).mono ?_
        rintro x w8 ⟨rfl, hb8⟩
        have HV8 := Lib.hid (HV7.out.trans (hb8.mono HV7.out.size))
        clear hb8
        go_wp2_with fail
        go_ret
        exact ⟨rfl, HV8.out⟩
end Go.Proofs.YtfkkcgdniepgoaaGreat
