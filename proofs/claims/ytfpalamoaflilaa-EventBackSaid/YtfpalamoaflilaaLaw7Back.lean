/- chapter 7: EventBack, walked (printed by mkback7.py). -/
import Derived.Test.YtfpalamoaflilaaEvEqual
import Derived.Test.YtfpalamoaflilaaEvAlive
import Derived.Test.YtfpalamoaflilaaEvBackLaw
import Derived.IntWalk
namespace Go.Proofs.Ytfpalamoaflilaa
open Go.RowKit
set_option maxHeartbeats 4000000
set_option maxRecDepth 100000
set_option linter.unusedVariables false
attribute [local go_sem] run_store_flt

theorem can_can (c : Cmd) : c.can.can = c.can := by
  have h : ∀ e : Ev, e.can.can = e.can := fun e => by unfold Ev.can; simp only [canB_canB]
  unfold Cmd.can
  simp only [List.map_map]
  congr 1
  exact List.map_congr_left fun e _ => h e
theorem idx_in (x : Int) (n : Nat) (h : 0 < n) (hn : n ≤ 3000) : ∃ a : Nat, a < n ∧ (wrap64 (x.tmod n + n)).tmod n = a := by
  have h1 := Int.tmod_lt_of_pos x (show (0 : Int) < n by omega)
  have h2 := Int.tmod_lt_of_pos (-x) (show (0 : Int) < n by omega)
  rw [Int.neg_tmod] at h2
  generalize x.tmod (n : Int) = t at h1 h2
  have h3 : wrap64 (t + n) = t + n := by unfold wrap64; omega
  rw [h3]
  have h4 := Int.tmod_nonneg (n : Int) (show 0 ≤ t + (n : Int) by omega)
  have h5 := Int.tmod_lt_of_pos (t + (n : Int)) (show (0 : Int) < n by omega)
  exact ⟨((t + (n : Int)).tmod n).toNat, by omega, by omega⟩

theorem eventBack_any (k t : Int) (s : ByteArray) (x : Int) (A : Option Addr) (n c : Nat) (es : List Ev) (p q r : Int) (cut : Int) (more : ByteArray) (w : World)
    (ha : SlR w w.heap.size 4 A n (evVs es)) (hn : n ≤ 9223372036854775807) (hf : (⟨k, t, s, x, es, p, q, r⟩ : Cmd).fits) (hcut : -9223372036854775808 ≤ cut ∧ cut ≤ 9223372036854775807) (hmore : more.size ≤ 9223372036854775807) :
    Calls Try.prog 7 #[.agg #[.int .i64 k, .int .i64 t, .string s, .int .i64 x, .slice A n c, .int .i64 p, .int .i64 q, .int .i64 r], .int .i64 cut, .string more] w fun e w' => e = .returned (.bool true) ∧ Below w.heap.size w w' := by
  obtain ⟨V, hV⟩ : ∃ V, w.alloc (.cells #[.int .i64 k, .int .i64 t, .string s, .int .i64 x, .slice A n c, .int .i64 p, .int .i64 q, .int .i64 r] 26) = V := ⟨_, rfl⟩
  have hA : BlkIs V w.heap.size 26 #[.int .i64 k, .int .i64 t, .string s, .int .i64 x, .slice A n c, .int .i64 p, .int .i64 q, .int .i64 r] := by rw [← hV]; exact BlkIs.new _ _ _
  have hb0 : Below w.heap.size w V := by rw [← hV]; exact (Below.refl _ _).alloc (Nat.le_refl _) _
  have ha0 := ha.below hb0
  have hS0 : ∀ wx, Below V.heap.size V wx → wx.cell? ⟨w.heap.size, 0, none⟩ = some (.int .i64 k) ∧ wx.cell? ⟨w.heap.size, 1, none⟩ = some (.int .i64 t) ∧ wx.cell? ⟨w.heap.size, 2, none⟩ = some (.string s) ∧ wx.cell? ⟨w.heap.size, 3, none⟩ = some (.int .i64 x) ∧ wx.cell? ⟨w.heap.size, 4, none⟩ = some (.slice A n c) ∧ wx.cell? ⟨w.heap.size, 5, none⟩ = some (.int .i64 p) ∧ wx.cell? ⟨w.heap.size, 6, none⟩ = some (.int .i64 q) ∧ wx.cell? ⟨w.heap.size, 7, none⟩ = some (.int .i64 r) := fun wx h => by
    have f1 := (hA.below h hA.lt).cell
    exact ⟨f1 0, f1 1, f1 2, f1 3, f1 4, f1 5, f1 6, f1 7⟩
  have hsmA := fun wx (h : Below V.heap.size V wx) => small_any k t s x A n c w.heap.size es p q r wx (ha0.below (h.mono hb0.size)) (Nat.le_trans hb0.size h.size) hn hf.es hf.s1
  have hla : es.length = n := by have := ha.len; rw [evVs_length] at this; omega
  have hpA := fun wx (h : Below V.heap.size V wx) (h1 : n ≤ 1000000000) => put_any k t s x A n c w.heap.size es p q r wx (ha0.below (h.mono hb0.size)) (Nat.le_trans hb0.size h.size) h1 hf.es hf.s1
  have hck := fun wx (h : Below V.heap.size V wx) (h1 : n ≤ 1000000000) => check_any k t s x A n c w.heap.size es p q r wx (ha0.below (h.mono hb0.size)) (Nat.le_trans hb0.size h.size) h1 hf.es hf.s1
  have hsa := fun wx (h : Below V.heap.size V wx) (h1 : n ≤ 1000000000) => ha0.below (h.mono hb0.size)
  have hsm1 : smallC s es = true → n ≤ 12 := fun h => by have := (smallC_few (s := s) (es := es) h).1; omega
  have HSm1 := Lib.hid hsm1; have Hf := Lib.hid hf
  have HB := Below.refl V.heap.size V
  obtain ⟨c00, c01, c02, c03, c04, c05, c06, c07⟩ := hS0 _ HB
  have HS := Lib.hid hS0; have Hb0 := Lib.hid hb0; have Hck := Lib.hid hck; have HpA := Lib.hid hpA; have HsmA := Lib.hid hsmA; have Hsa := Lib.hid hsa
  clear hA ha ha0 hS0 hb0 hla hsm1 hf hck hpA hsmA hsa
  cases hsm : smallC s es with
  | false =>
    have HsmA := Lib.hid (fun wx h => by have := HsmA.out wx h; rw [hsm] at this; exact this)
    go_enter Try.func7, Try.ntmps7
    go_wp2_with fail
    (try rw [hV])
    refine (HsmA.out _ HB).mono ?_
    rintro e wx ⟨rfl, hb⟩
    replace HB := HB.trans (hb.mono HB.size)
    clear hb c00 c01 c02 c03 c04 c05 c06 c07
    obtain ⟨c00, c01, c02, c03, c04, c05, c06, c07⟩ := HS.out _ HB
    go_wp2_with fail
    (try rw [hV])
    refine (alive7_any _).mono ?_
    rintro e wx ⟨rfl, hb⟩
    replace HB := HB.trans (hb.mono HB.size)
    clear hb c00 c01 c02 c03 c04 c05 c06 c07
    obtain ⟨c00, c01, c02, c03, c04, c05, c06, c07⟩ := HS.out _ HB
    go_wp2_with fail
    go_ret
    exact ⟨rfl, Hb0.out.trans (HB.mono Hb0.out.size)⟩
  | true =>
    have hn12 := HSm1.out hsm
    have HsmA := Lib.hid (fun wx h => by have := HsmA.out wx h; rw [hsm] at this; exact this)
    have Hsmc := Lib.hid hsm
    clear hsm
    by_cases hmo : 300 < more.size
    · go_enter Try.func7, Try.ntmps7
      go_wp2_with fail
      (try rw [hV])
      refine (HsmA.out _ HB).mono ?_
      rintro e wx ⟨rfl, hb⟩
      replace HB := HB.trans (hb.mono HB.size)
      clear hb c00 c01 c02 c03 c04 c05 c06 c07
      obtain ⟨c00, c01, c02, c03, c04, c05, c06, c07⟩ := HS.out _ HB
      go_wp2_with fail
      (try rw [hV])
      refine (alive7_any _).mono ?_
      rintro e wx ⟨rfl, hb⟩
      replace HB := HB.trans (hb.mono HB.size)
      clear hb c00 c01 c02 c03 c04 c05 c06 c07
      obtain ⟨c00, c01, c02, c03, c04, c05, c06, c07⟩ := HS.out _ HB
      go_wp2_with fail
      go_ret
      exact ⟨rfl, Hb0.out.trans (HB.mono Hb0.out.size)⟩
    · have hmo := Nat.not_lt.1 hmo
      obtain ⟨pc, hpc⟩ : ∃ y, putC (⟨k, t, s, x, es, p, q, r⟩ : Cmd) = y := ⟨_, rfl⟩
      have HpA := Lib.hid (fun wx h h1 => by have := HpA.out wx h h1; rw [hpc] at this; exact this)
      by_cases hea : pc.2 = 0
      · have h0 : (putC (⟨k, t, s, x, es, p, q, r⟩ : Cmd)).2 = 0 := by rw [hpc]; exact hea
        have hfew := putC_few (⟨k, t, s, x, es, p, q, r⟩ : Cmd) h0
        have hgo := getC_put (⟨k, t, s, x, es, p, q, r⟩ : Cmd) h0 Hf.out
        have hgm := fun b h => getC_more (⟨k, t, s, x, es, p, q, r⟩ : Cmd) b h0 Hf.out h
        have hgc := fun j h => getC_cut (⟨k, t, s, x, es, p, q, r⟩ : Cmd) h0 Hf.out j h
        have hpos : 1 ≤ (putC (⟨k, t, s, x, es, p, q, r⟩ : Cmd)).1.length := by
          rw [(putC_ok h0).2]
          simp only [cmdL, headC, List.length_append, beBytes_length]
          omega
        have hsc : sameC (⟨k, t, s, x, es, p, q, r⟩ : Cmd) ((⟨k, t, s, x, es, p, q, r⟩ : Cmd).can) = true := (sameC_iff _ _).2 (can_can _).symm
        rw [hpc] at hfew hgo hgm hgc hpos
        obtain ⟨pa1, pa2⟩ := pc
        dsimp only at hea hfew hgo hgm hgc hpos HpA
        subst hea
        obtain ⟨S, hS⟩ : ∃ S : ByteArray, S = ⟨pa1.toArray⟩ := ⟨_, rfl⟩
        have hSl : S.data.toList = pa1 := by rw [hS]
        rw [← hS] at HpA
        rw [← hSl, ← size_list] at hfew hpos
        rw [← hSl] at hgo hgm hgc
        clear hS hSl hpc h0
        have hl2 : (Cmd.can (⟨k, t, s, x, es, p, q, r⟩ : Cmd)).es.length = es.length := by simp [Cmd.can]
        obtain ⟨⟨k2, t2, s2, x2, es2, p2, q2, r2⟩, hcan⟩ : ∃ d, d = Cmd.can (⟨k, t, s, x, es, p, q, r⟩ : Cmd) := ⟨_, rfl⟩
        rw [← hcan] at hgo hsc hl2
        dsimp only at hl2
        have hG1 := fun w => get_any S w (by omega)
        rw [hgo] at hG1
        dsimp only at hG1
        have hmore : (S ++ more).data.toList = S.data.toList ++ more.data.toList := by simp
        have hG2 := fun w => get_any (S ++ more) w (by rw [size_list, hmore, List.length_append, ← size_list, ← size_list]; omega)
        rw [hmore] at hG2
        have hgm' : more.size = 0 ∨ (getC (S.data.toList ++ more.data.toList)).2 ≠ 0 := by
          by_cases h0 : more.size = 0
          · exact .inl h0
          · exact .inr (hgm _ (fun e => h0 (by rw [size_list, e]; rfl)))
        obtain ⟨⟨⟨k3, t3, s3, x3, es3, p3, q3, r3⟩, e3⟩, hd3⟩ : ∃ d, d = getC (S.data.toList ++ more.data.toList) := ⟨_, rfl⟩
        rw [← hd3] at hG2 hgm'
        dsimp only at hG2 hgm'
        obtain ⟨j, hj, ej⟩ := idx_in cut S.size hpos hfew
        have hext : (S.extract 0 j).data.toList = S.data.toList.take j := by rw [str_to]
        have hG3 := fun w => get_any (S.extract 0 j) w (by rw [size_list, hext, List.length_take, ← size_list]; omega)
        rw [hext] at hG3
        have hgc' := hgc j (by rw [← size_list]; exact hj)
        obtain ⟨⟨⟨k4, t4, s4, x4, es4, p4, q4, r4⟩, e4⟩, hd4⟩ : ∃ d, d = getC (S.data.toList.take j) := ⟨_, rfl⟩
        rw [← hd4] at hG3 hgc'
        dsimp only at hG3 hgc'
        have hne4 : (e4 != 0) = true := by rw [bne_iff_ne]; exact hgc'
        have d1 : ((S.size : Int) == 0) = false := by rw [beq_eq_false_iff_ne]; omega
        have HG1 := Lib.hid hG1; have HG2 := Lib.hid hG2; have HG3 := Lib.hid hG3; have Hsc := Lib.hid hsc; have Hl2 := Lib.hid hl2; have Hgm := Lib.hid hgm'; have Hej := Lib.hid ej
        have Hes := Lib.hid (show es.length ≤ 12 from (smallC_few Hsmc.out).1)
        clear hgo hgm hgc hG1 hG2 hG3 hsc hcan hd3 hd4 hgc' hgm' hmore hext hl2 ej
        obtain ⟨hc1, hc2⟩ := hcut
        go_enter Try.func7, Try.ntmps7
        go_wp2_with fail
        (try rw [hV])
        refine (HsmA.out _ HB).mono ?_
        rintro e wx ⟨rfl, hb⟩
        replace HB := HB.trans (hb.mono HB.size)
        clear hb c00 c01 c02 c03 c04 c05 c06 c07
        obtain ⟨c00, c01, c02, c03, c04, c05, c06, c07⟩ := HS.out _ HB
        go_wp2_with fail
        (try rw [hV])
        refine (HpA.out _ HB (by omega)).mono ?_
        rintro e wx ⟨rfl, hb⟩
        replace HB := HB.trans (hb.mono HB.size)
        clear hb c00 c01 c02 c03 c04 c05 c06 c07
        obtain ⟨c00, c01, c02, c03, c04, c05, c06, c07⟩ := HS.out _ HB
        go_wp2_with fail
        refine (HG1.out _).mono ?_
        rintro e w3 ⟨A2, n2, cap2, rfl, hown2, hb⟩
        replace HB := HB.trans (hb.mono HB.size)
        have O2 := Lib.hid hown2
        clear hown2 hb c00 c01 c02 c03 c04 c05 c06 c07
        go_wp2_with fail
        have hD3 := BlkIs.new w3 26 #[.int .i64 k2, .int .i64 t2, .string s2, .int .i64 x2, .slice A2 n2 cap2, .int .i64 p2, .int .i64 q2, .int .i64 r2]
        have hbD : Below w3.heap.size w3 (w3.alloc (.cells #[.int .i64 k2, .int .i64 t2, .string s2, .int .i64 x2, .slice A2 n2 cap2, .int .i64 p2, .int .i64 q2, .int .i64 r2] 26)) := (Below.refl _ _).alloc (Nat.le_refl _) _
        have O3 := Lib.hid (own_below O2.out hbD (fun q hq => (O2.out.lt q hq).2))
        replace HB := HB.trans (hbD.mono HB.size)
        refine (HG2.out _).mono ?_
        rintro e w4 ⟨A3, n3, cap3, rfl, -, hb⟩
        have O4 := Lib.hid (own_below O3.out hb (fun q hq => (O3.out.lt q hq).2))
        have hD4 := Lib.hid (hD3.below hb hD3.lt)
        replace HB := HB.trans (hb.mono HB.size)
        clear hb hbD hD3
        have ej := Hej.out
        have j0 : 0 ≤ (j : Int) := by omega
        have j1 : (j : Int) < (S.size : Int) := by omega
        have j2 : (j : Int) ≤ (S.size : Int) := by omega
        go_wp2_with fail
        have hbE : Below w4.heap.size w4 (w4.alloc (.cells #[.int .i64 k3, .int .i64 t3, .string s3, .int .i64 x3, .slice A3 n3 cap3, .int .i64 p3, .int .i64 q3, .int .i64 r3] 26)) := (Below.refl _ _).alloc (Nat.le_refl _) _
        have O5 := Lib.hid (own_below O4.out hbE (fun q hq => (O4.out.lt q hq).2))
        have hD5 := hD4.out.below hbE hD4.out.lt
        replace HB := HB.trans (hbE.mono HB.size)
        refine (HG3.out _).mono ?_
        rintro e w5 ⟨A4, n4, cap4, rfl, -, hb⟩
        have O6 := Lib.hid (own_below O5.out hb (fun q hq => (O5.out.lt q hq).2))
        have hD6 := Lib.hid (hD5.below hb hD5.lt)
        replace HB := HB.trans (hb.mono HB.size)
        clear hb hbE hD5 ej
        go_wp2_with fail
        have hbF : Below w5.heap.size w5 (w5.alloc (.cells #[.int .i64 k4, .int .i64 t4, .string s4, .int .i64 x4, .slice A4 n4 cap4, .int .i64 p4, .int .i64 q4, .int .i64 r4] 26)) := (Below.refl _ _).alloc (Nat.le_refl _) _
        have O7 := Lib.hid (own_below O6.out hbF (fun q hq => (O6.out.lt q hq).2))
        have hD7 := hD6.out.below hbF hD6.out.lt
        replace HB := HB.trans (hbF.mono HB.size)
        refine (alive7_any _).mono ?_
        rintro e w6 ⟨rfl, hb⟩
        have O8 := Lib.hid (own_below O7.out hb (fun q hq => (O7.out.lt q hq).2))
        have hD8 := hD7.below hb hD7.lt
        replace HB := HB.trans (hb.mono HB.size)
        clear hb hbF hD7
        obtain ⟨c00, c01, c02, c03, c04, c05, c06, c07⟩ := HS.out _ HB
        have hD9 := hD8.cell
        have d00 := hD9 0; have d01 := hD9 1; have d02 := hD9 2; have d03 := hD9 3; have d04 := hD9 4; have d05 := hD9 5; have d06 := hD9 6; have d07 := hD9 7
        have hsm := same_any k t s x A n c es p q r k2 t2 s2 x2 A2 n2 cap2 es2 p2 q2 r2 w6.heap.size w6 ((Hsa.out _ HB (by omega)).more (Nat.le_trans Hb0.out.size HB.size)) (SlR.own O8.out) (Nat.le_refl _) (by omega) (by have := Hl2.out; have := Hes.out; have := (SlR.own O8.out).len; rw [evVs_length] at this; omega)
        rw [Hsc.out] at hsm
        have Hsm := Lib.hid hsm
        clear hsm hD8 hD9
        rcases Hgm.out with hm0 | hm1
        · obtain rfl := str_size0 hm0
          clear hm0
          go_wp2_with fail
          refine Hsm.out.mono ?_
          rintro e w7 ⟨rfl, hb⟩
          replace HB := HB.trans (hb.mono HB.size)
          clear hb
          go_wp2_with fail
          go_ret
          exact ⟨rfl, Hb0.out.trans (HB.mono Hb0.out.size)⟩
        · by_cases hm0 : more.size = 0
          · obtain rfl := str_size0 hm0
            clear hm0 hm1
            go_wp2_with fail
            refine Hsm.out.mono ?_
            rintro e w7 ⟨rfl, hb⟩
            replace HB := HB.trans (hb.mono HB.size)
            clear hb
            go_wp2_with fail
            go_ret
            exact ⟨rfl, Hb0.out.trans (HB.mono Hb0.out.size)⟩
          · have hm2 := str_ne0 hm0
            have hm3 : (e3 != 0) = true := by rw [bne_iff_ne]; exact hm1
            clear hm0 hm1
            go_wp2_with fail
            refine Hsm.out.mono ?_
            rintro e w7 ⟨rfl, hb⟩
            replace HB := HB.trans (hb.mono HB.size)
            clear hb
            go_wp2_with fail
            all_goals
              go_ret
              exact ⟨rfl, Hb0.out.trans (HB.mono Hb0.out.size)⟩
      · have hnil : pc.1 = [] := by rw [← hpc]; exact putC_bad2 (by rw [hpc]; exact hea)
        have hcc : checkC (⟨k, t, s, x, es, p, q, r⟩ : Cmd) = pc.2 := by rw [← hpc, putC_snd]
        have Hck := Lib.hid (fun wx h h1 => by have := Hck.out wx h h1; rw [hcc] at this; exact this)
        obtain ⟨pa1, pa2⟩ := pc
        dsimp only at hnil hea Hck HpA
        subst hnil
        have hea' : (pa2 != 0) = true := by rw [bne_iff_ne]; exact hea
        clear hcc hpc hea
        go_enter Try.func7, Try.ntmps7
        go_wp2_with fail
        (try rw [hV])
        refine (HsmA.out _ HB).mono ?_
        rintro e wx ⟨rfl, hb⟩
        replace HB := HB.trans (hb.mono HB.size)
        clear hb c00 c01 c02 c03 c04 c05 c06 c07
        obtain ⟨c00, c01, c02, c03, c04, c05, c06, c07⟩ := HS.out _ HB
        go_wp2_with fail
        (try rw [hV])
        refine (HpA.out _ HB (by omega)).mono ?_
        rintro e wx ⟨rfl, hb⟩
        replace HB := HB.trans (hb.mono HB.size)
        clear hb c00 c01 c02 c03 c04 c05 c06 c07
        obtain ⟨c00, c01, c02, c03, c04, c05, c06, c07⟩ := HS.out _ HB
        go_wp2_with fail
        (try rw [hV])
        refine (alive7_any _).mono ?_
        rintro e wx ⟨rfl, hb⟩
        replace HB := HB.trans (hb.mono HB.size)
        clear hb c00 c01 c02 c03 c04 c05 c06 c07
        obtain ⟨c00, c01, c02, c03, c04, c05, c06, c07⟩ := HS.out _ HB
        go_wp2_with fail
        (try rw [hV])
        refine (Hck.out _ HB (by omega)).mono ?_
        rintro e wx ⟨rfl, hb⟩
        replace HB := HB.trans (hb.mono HB.size)
        clear hb c00 c01 c02 c03 c04 c05 c06 c07
        obtain ⟨c00, c01, c02, c03, c04, c05, c06, c07⟩ := HS.out _ HB
        go_wp2_with fail
        go_ret
        exact ⟨rfl, Hb0.out.trans (HB.mono Hb0.out.size)⟩
end Go.Proofs.Ytfpalamoaflilaa
