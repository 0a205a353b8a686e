/- chapter 13: TableAsTab, walked. -/
import Derived.Test.YtfkkcgdniepgoaaCTableAsTabTblAlive
import Derived.Test.YtfkkcgdniepgoaaJTableAsTab4
import Derived.Test.YtfkkcgdniepgoaaCTableAsTabTblLast
import Derived.Test.YtfkkcgdniepgoaaJTableAsTab5
import Derived.Test.YtfkkcgdniepgoaaJTableAsTab6
import Derived.Test.YtfkkcgdniepgoaaBookInts
namespace Go.Proofs.Ytfkkcgdniepgoaa
open Go.RowKit
set_option maxHeartbeats 4000000
set_option maxRecDepth 100000
set_option linter.unusedVariables false

theorem mayT_pos {l : List En} (h : mayT l = true) : ∀ x ∈ l, 0 ≤ x.2.2 := fun x hx => by
  unfold mayT at h
  rw [Bool.and_eq_true] at h
  have := List.all_eq_true.1 h.1 x hx
  unfold rightE at this
  rw [decide_eq_true_iff] at this
  omega

theorem tableAsTab_any (A1 : Option Addr) (n1 c1 : Nat) (ps : List En) (hash from_ to_ : Int) (W : World) (h1 : SlR W W.heap.size 3 A1 n1 (enVs ps)) (hm1 : n1 ≤ 9223372036854775807) :
    Calls Try.prog 5 #[.slice A1 n1 c1, .int .i64 hash, .int .i64 from_, .int .i64 to_] W fun e w' => e = .returned (.bool true) ∧ Below W.heap.size W w' := by
  by_cases c1 : 60 < n1
  · clear h1
    go_enter Try.func5, Try.ntmps5
    go_wp2_with fail
    refine (alive13_any _).mono ?_
    rintro e w1 ⟨rfl, hb1⟩
    go_wp2_with fail
    go_ret
    exact ⟨rfl, hb1⟩
  have c1 := Nat.not_lt.1 c1
  have hl1 : ps.length = n1 := by have := h1.len; rw [enVs_length] at this; omega
  have hle : (addsE [] ps).length ≤ 60 := by have := (adds_le [] ps).2; simp only [List.length_nil, Nat.zero_add] at this; omega
  have hso : SortedE (addsE [] ps) := adds_sorted List.Pairwise.nil ps
  have H1 := Lib.hid h1; have Hso := Lib.hid hso
  clear h1 hl1 hso
  go_enter Try.func5, Try.ntmps5
  go_wp2_with fail
  refine (new_any _).mono ?_
  rintro e w2 ⟨rfl, hn2, hb2⟩
  have N1 : TabAt W w2 W.heap.size none [] := ⟨hn2 _, Nat.le_refl _, hb2⟩
  have HN := Lib.hid N1
  clear hn2 hb2 N1
  generalize hT : W.heap.size = T at HN ⊢
  have HT := Lib.hid hT
  clear hT
  go_wp2_with fail
  refine (add_any W.heap.size T none [] ps A1 n1 _ _ HN.out.is List.Pairwise.nil ((H1.out.below HN.out.bel).more HN.out.bel.size) ?_ HN.out.bel.size (by simp; omega)).mono ?_
  · rintro h0 ad rfl
    obtain ⟨ad', e, hlt', _⟩ := H1.out.cells h0
    injection e with e
    subst e
    exact ⟨by have := HN.out.lo; omega, by simp⟩
  rintro e w3 ⟨rfl, r, hi3, hs3⟩
  have N3 := Lib.hid (HN.out.step hi3 hs3)
  clear hi3 hs3 HN
  obtain ⟨L, hL⟩ : ∃ L, L = addsE [] ps := ⟨_, rfl⟩
  rw [← hL] at N3 hle Hso
  clear hL
  go_wp2_with fail
  refine (all_any _ T r L _ N3.out.is (by omega)).mono ?_
  rintro e w4 ⟨u, rfl, hown4, hb4⟩
  obtain ⟨B1, d1, rfl, _⟩ := own_slice hown4
  have N4 := Lib.hid (N3.out.under hb4)
  have hbuild := build_any B1 L.length d1 w4.heap.size L w4 (SlR.own hown4) (Nat.le_refl _) (by omega)
  clear hown4 hb4 N3
  cases hmay : mayT L with
  | false =>
    rw [buildT_no hmay] at hbuild
    have Hbuild := Lib.hid hbuild
    clear hbuild hmay
    go_wp2_with fail
    refine Hbuild.out.mono ?_
    rintro x w5 ⟨rfl, hb5⟩
    go_wp2_with fail
    refine (alive13_any _).mono ?_
    rintro x w6 ⟨rfl, hb6⟩
    go_wp2_with fail
    go_ret
    exact ⟨rfl, N4.out.bel.trans ((hb5.trans (hb6.mono hb5.size)).mono N4.out.bel.size)⟩
  | true =>
    rw [buildT_yes hmay] at hbuild
    have hpos := mayT_pos hmay
    have Hopn := Lib.hid (openT_build L hmay (by omega))
    have Hsl := Lib.hid (sealT_length L)
    have Hbuild := Lib.hid hbuild
    have Hpos := Lib.hid hpos
    clear hbuild hmay hpos
    generalize sealT L = sl at Hopn Hsl Hbuild
    go_wp2_with fail
    refine Hbuild.out.mono ?_
    rintro x w5 ⟨rfl, hb5⟩
    have hopen := tblOpen_any ⟨sl.toArray⟩ w5 (by rw [size_mk, Hsl.out]; omega)
    rw [show openT (ByteArray.mk sl.toArray).data.toList = (L, 0) from Hopn.out] at hopen
    have Hopen := Lib.hid hopen
    have N5 := Lib.hid (N4.out.under hb5)
    clear hopen hb5 Hbuild N4
    go_wp2_with fail
    refine Hopen.out.mono ?_
    rintro x w6 ⟨p, rfl, _, hq, hb6⟩
    obtain ⟨g, rfl, hT6⟩ := hq trivial
    have N6 := N5.out.under hb6
    have HTb : Hid (∀ wx, Below w6.heap.size w6 wx → TblIs wx w5.heap.size g L) := Lib.hid (fun wx hx => hT6.below hx (Nat.le_refl _))
    have HTa : Hid (∀ wx, Below w6.heap.size w6 wx → TabAt W wx T r L) := Lib.hid (fun wx hx => N6.under hx)
    have HBs := Lib.hid N6.bel
    clear hT6 hq hb6 N6 N5 Hopen
    obtain ⟨lp, hlp⟩ : ∃ p, p = (lastE L hash).getD (0, 0, 0) := ⟨_, rfl⟩
    obtain ⟨lq, hlq⟩ : ∃ q, q = (lastE L hash).isSome := ⟨_, rfl⟩
    have hlT := tblLast_any w5.heap.size g L hash w6 (HTb.out w6 (Below.refl _ _)) (by omega)
    have hlA : ∀ wx, Below w6.heap.size w6 wx → _ := fun wx hx => last_any W.heap.size T r L hash wx (HTa.out wx hx).is (by omega)
    rw [← hlp, ← hlq] at hlT
    simp only [← hlp, ← hlq] at hlA
    obtain ⟨l0, l1, l2⟩ := lp
    unfold enA at hlT hlA
    dsimp only at hlT hlA
    have HlT := Lib.hid hlT; have HlA := Lib.hid hlA
    clear hlT hlA hlp hlq
    go_wp2_with fail
    refine HlT.out.mono ?_
    rintro x w7 ⟨rfl, hb7⟩
    obtain ⟨V7, hV7⟩ : ∃ V, w7.alloc (.cells #[.int .i64 l0, .int .i64 l1, .int .i64 l2] 33) = V := ⟨_, rfl⟩
    have hE7 : BlkIs V7 w7.heap.size 33 #[.int .i64 l0, .int .i64 l1, .int .i64 l2] := by rw [← hV7]; exact BlkIs.new _ _ _
    have hb7' : Below w6.heap.size w6 V7 := by rw [← hV7]; exact hb7.alloc hb7.size _
    have HE7 := Lib.hid hE7; have Hb7 := Lib.hid hb7'
    clear hb7 hE7 hb7' HlT
    go_wp2_with fail
    refine (HlA.out _ (by first | exact Hb7.out | (rw [hV7]; exact Hb7.out))).mono ?_
    rintro x w8 ⟨rfl, hb8⟩
    (try rw [hV7] at hb8)
    obtain ⟨V8, hV8⟩ : ∃ V, w8.alloc (.cells #[.int .i64 l0, .int .i64 l1, .int .i64 l2] 33) = V := ⟨_, rfl⟩
    have hE8 : BlkIs V8 w8.heap.size 33 #[.int .i64 l0, .int .i64 l1, .int .i64 l2] := by rw [← hV8]; exact BlkIs.new _ _ _
    have hbq8 : Below w8.heap.size w8 V8 := by rw [← hV8]; exact (Below.refl _ _).alloc (Nat.le_refl _) _
    have HE7' := Lib.hid ((HE7.out.below hb8 HE7.out.lt).below hbq8 (Nat.lt_of_lt_of_le HE7.out.lt hb8.size))
    have HE8 := Lib.hid hE8
    have Hb8 := Lib.hid ((Hb7.out.trans (hb8.mono Hb7.out.size)).trans (hbq8.mono (Nat.le_trans Hb7.out.size hb8.size)))
    have hcc : ∀ wx, Below V8.heap.size V8 wx → (wx.cell? ⟨w7.heap.size, 0, none⟩ = some (.int .i64 l0) ∧ wx.cell? ⟨w7.heap.size, 1, none⟩ = some (.int .i64 l1) ∧ wx.cell? ⟨w7.heap.size, 2, none⟩ = some (.int .i64 l2)) ∧ (wx.cell? ⟨w8.heap.size, 0, none⟩ = some (.int .i64 l0) ∧ wx.cell? ⟨w8.heap.size, 1, none⟩ = some (.int .i64 l1) ∧ wx.cell? ⟨w8.heap.size, 2, none⟩ = some (.int .i64 l2)) := fun wx hx => by
      have f := (HE7'.out.below hx HE7'.out.lt).cell
      have g := (HE8.out.below hx HE8.out.lt).cell
      exact ⟨⟨f 0, f 1, f 2⟩, g 0, g 1, g 2⟩
    have Hcc := Lib.hid hcc
    clear hb8 hE8 hbq8 hcc HlA
    have hEq : ∀ w, (binOp .eql 33 (.agg #[.int .i64 l0, .int .i64 l1, .int .i64 l2]) (.agg #[.int .i64 l0, .int .i64 l1, .int .i64 l2])).run Try.prog w = .ok (.bool true) w := fun w => by rw [run_eql_en]; simp
    have hqq : (lq == lq) = true := by simp
    go_wp2_with fail
    refine (alive13_any _).mono ?_
    rintro x w9 ⟨rfl, hb9⟩
    (try rw [hV8] at hb9)
    have Hw9 := Lib.hid hb9
    have Hb9 := Lib.hid (Hb8.out.trans (hb9.mono Hb8.out.size))
    obtain ⟨⟨f0, f1, f2⟩, g0, g1, g2⟩ := Hcc.out _ hb9
    have hRT := tblRange_any w5.heap.size g L hash from_ to_ w9 (HTb.out _ Hb9.out) (by omega) Hso.out Hpos.out
    have hrl := range_le L hash from_ to_
    have hfl := find_le L hash from_
    have HRT := Lib.hid hRT
    clear hb9 hRT Hcc
    go_wp2_with fail
    refine HRT.out.mono ?_
    rintro x w10 ⟨u10, rfl, ho10, hb10⟩
    obtain ⟨A10, c10, rfl, _⟩ := own_slice ho10
    have Hb10 := Lib.hid (Hb9.out.trans (hb10.mono Hb9.out.size))
    have Ho10 := Lib.hid ho10
    have hRA := range_any W.heap.size T r L hash from_ to_ w10 (HTa.out _ Hb10.out).is (by omega)
    have HRA := Lib.hid hRA
    clear ho10 hb10 hRA HRT Hb9 f0 f1 f2 g0 g1 g2
    go_wp2_with fail
    refine HRA.out.mono ?_
    rintro x w11 ⟨u11, rfl, ho11, hb11⟩
    obtain ⟨A11, c11, rfl, _⟩ := own_slice ho11
    have Hb11 := Lib.hid (Hb10.out.trans (hb11.mono Hb10.out.size))
    have hsame := sameEntries_eq w10.heap.size w11.heap.size (rangeE L hash from_ to_).length c10 c11 A10 A11 (rangeE L hash from_ to_) w11 ((SlR.own Ho10.out).below hb11) (SlR.own ho11) (by omega)
    have Hsame := Lib.hid hsame
    clear ho11 hb11 hsame HRA Hb10 Ho10
    go_wp2_with fail
    refine Hsame.out.mono ?_
    rintro x w12 ⟨rfl, k12, rfl⟩
    have Hb12 := Lib.hid (below_drewN Hb11.out k12)
    obtain ⟨v12, hv12⟩ : ∃ v, w11.drewN k12 = v := ⟨_, rfl⟩
    rw [hv12] at Hb12 ⊢
    clear hv12 Hb11 Hsame
    have hFT := tblFind_any w5.heap.size g L hash from_ v12 (HTb.out _ Hb12.out) (by omega) Hso.out Hpos.out
    have HFT := Lib.hid hFT
    clear hFT
    go_wp2_with fail
    refine HFT.out.mono ?_
    rintro x w13 ⟨u13, rfl, ho13, hb13⟩
    obtain ⟨A13, c13, rfl, _⟩ := own_slice ho13
    have Hb13 := Lib.hid (Hb12.out.trans (hb13.mono Hb12.out.size))
    have Ho13 := Lib.hid ho13
    have hFA := find_any W.heap.size T r L hash from_ w13 (HTa.out _ Hb13.out).is (by omega)
    have HFA := Lib.hid hFA
    clear ho13 hb13 hFA HFT Hb12
    go_wp2_with fail
    refine HFA.out.mono ?_
    rintro x w14 ⟨u14, rfl, ho14, hb14⟩
    obtain ⟨A14, c14, rfl, _⟩ := own_slice ho14
    have Hb14 := Lib.hid (Hb13.out.trans (hb14.mono Hb13.out.size))
    have hsi := sameInts_any w13.heap.size w14.heap.size (findE L hash from_).length (findE L hash from_).length c13 c14 A13 A14 (findE L hash from_) (findE L hash from_) w14 ((SlR.own Ho13.out).below hb14) (SlR.own ho14) (by omega) (by omega)
    rw [decide_eq_true rfl] at hsi
    have Hsi := Lib.hid hsi
    clear ho14 hb14 hsi HFA Hb13 Ho13
    go_wp2_with fail
    refine Hsi.out.mono ?_
    rintro x w15 ⟨rfl, k15, rfl⟩
    have Hb15 := Lib.hid (below_drewN Hb14.out k15)
    obtain ⟨v15, hv15⟩ : ∃ v, w14.drewN k15 = v := ⟨_, rfl⟩
    rw [hv15] at Hb15 ⊢
    clear hv15 Hb14 Hsi
    have hAT := tblAll_any w5.heap.size g L v15 (HTb.out _ Hb15.out) (by omega)
    have HAT := Lib.hid hAT
    clear hAT
    go_wp2_with fail
    refine HAT.out.mono ?_
    rintro x w16 ⟨u16, rfl, ho16, hb16⟩
    obtain ⟨A16, c16, rfl, _⟩ := own_slice ho16
    have Hb16 := Lib.hid (Hb15.out.trans (hb16.mono Hb15.out.size))
    have Ho16 := Lib.hid ho16
    have hAA := all_any W.heap.size T r L w16 (HTa.out _ Hb16.out).is (by omega)
    have HAA := Lib.hid hAA
    clear ho16 hb16 hAA HAT Hb15
    go_wp2_with fail
    refine HAA.out.mono ?_
    rintro x w17 ⟨u17, rfl, ho17, hb17⟩
    obtain ⟨A17, c17, rfl, _⟩ := own_slice ho17
    have Hb17 := Lib.hid (Hb16.out.trans (hb17.mono Hb16.out.size))
    have hsame := sameEntries_eq w16.heap.size w17.heap.size L.length c16 c17 A16 A17 L w17 ((SlR.own Ho16.out).below hb17) (SlR.own ho17) (by omega)
    have Hsame := Lib.hid hsame
    clear ho17 hb17 hsame HAA Hb16 Ho16
    go_wp2_with fail
    refine Hsame.out.mono ?_
    rintro x w18 ⟨rfl, k18, rfl⟩
    have Hb18 := Lib.hid (below_drewN Hb17.out k18)
    obtain ⟨v18, hv18⟩ : ∃ v, w17.drewN k18 = v := ⟨_, rfl⟩
    rw [hv18] at Hb18 ⊢
    clear hv18 Hb17 Hsame
    have hlc := tblLen_any w5.heap.size g L v18 (HTb.out _ Hb18.out) (by omega)
    have hla := len_any W.heap.size T r L v18 (HTa.out _ Hb18.out).is (by omega)
    have Hlc := Lib.hid hlc; have Hla := Lib.hid hla
    clear hlc hla
    go_wp2_with fail
    refine Hlc.out.mono ?_
    rintro x w19 ⟨rfl, rfl⟩
    go_wp2_with fail
    refine Hla.out.mono ?_
    rintro x w20 ⟨rfl, rfl⟩
    go_wp2_with fail
    go_ret
    exact ⟨rfl, HBs.out.trans (Hb18.out.mono HBs.out.size)⟩
end Go.Proofs.Ytfkkcgdniepgoaa
