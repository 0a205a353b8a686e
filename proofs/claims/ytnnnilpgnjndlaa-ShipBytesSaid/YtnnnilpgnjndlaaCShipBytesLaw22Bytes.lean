/- chapter 22: ShipBytes, walked (printed by mkbytes22.py). -/
import Derived.Test.YtnnnilpgnjndlaaCShipBytesShipEnt4
import Derived.Test.YtnnnilpgnjndlaaCShipBytesRefSame
import Derived.Test.YtnnnilpgnjndlaaCShipBytesEvAlive
import Derived.Test.YtnnnilpgnjndlaaCShipBytesShipMark

namespace Go.Proofs.Ytnnnilpgnjndlaa
open Go.RowKit
set_option maxHeartbeats 16000000
set_option maxRecDepth 100000
set_option linter.unusedVariables false
attribute [local go_sem] run_store_flt

theorem rdEvs_few3 (n : Nat) (bs : List UInt8) (x : Int) : (rdEvs n bs x).1.length ≤ n := by
  induction n generalizing bs x with
  | zero => simp [rdEvs]
  | succ n ih =>
    rw [rdEvs]
    split
    · simp only [List.length_cons]
      exact Nat.succ_le_succ (ih _ _)
    · simp
theorem getN_few (bs : List UInt8) : (getN bs).2.1.es.length ≤ 255 := by
  have hc : ∀ bs : List UInt8, (getC bs).1.es.length ≤ 255 := fun bs => by
    have h : (readC bs).1.es.length ≤ 255 := by
      unfold readC
      exact Nat.le_trans (rdEvs_few3 _ _ _) (Nat.le_of_lt_succ (inNum_lt 1 _ _))
    unfold getC
    split
    · exact Nat.zero_le _
    · split
      · exact Nat.zero_le _
      · exact h
  unfold getN
  split
  · exact Nat.zero_le _
  · split
    · exact Nat.zero_le _
    · exact hc _
theorem can_can (c : Cmd) : c.can.can = c.can := by
  have h : ∀ e : Ev, e.can.can = e.can := fun e => by unfold Ev.can; simp only [canB_canB]
  unfold Cmd.can
  simp only [List.map_map]
  congr 1
  exact List.map_congr_left fun e _ => h e
theorem putN_few (n : Int) (c : Cmd) : (putN n c).1.length ≤ 4000 := by
  unfold putN
  split
  · split
    · next h => have h1 := putC_few c h; have h2 : (beBytes 4 n.toNat).length = 4 := beBytes_length _ _; simp only [List.length_append]; omega
    · simp
  · simp

theorem shipBytes_any (n k t : Int) (s : ByteArray) (x : Int) (A : Option Addr) (m cap : Nat) (es : List Ev) (m0 m1 m2 : Int) (b : ByteArray) (w : World) (ha : SlR w w.heap.size 4 A m (evVs es)) (hm : m ≤ 9223372036854775807) (hf : (⟨k, t, s, x, es, m0, m1, m2⟩ : Cmd).fits) (hbl : b.size ≤ 9223372036854775807) :
    Calls Try.prog 3 #[.int .i64 n, .agg #[.int .i64 k, .int .i64 t, .string s, .int .i64 x, .slice A m cap, .int .i64 m0, .int .i64 m1, .int .i64 m2], .string b] w fun e w' => e = .returned (.bool true) ∧ Below w.heap.size w w' := by
  obtain ⟨V, hV⟩ : ∃ V, w.alloc (.cells #[.int .i64 k, .int .i64 t, .string s, .int .i64 x, .slice A m cap, .int .i64 m0, .int .i64 m1, .int .i64 m2] 26) = V := ⟨_, rfl⟩
  have hA : BlkIs V w.heap.size 26 #[.int .i64 k, .int .i64 t, .string s, .int .i64 x, .slice A m cap, .int .i64 m0, .int .i64 m1, .int .i64 m2] := by rw [← hV]; exact BlkIs.new _ _ _
  have hb0 : Below w.heap.size w V := by rw [← hV]; exact (Below.refl _ _).alloc (Nat.le_refl _) _
  have ha0 := ha.below hb0
  have hS0 : ∀ wx, Below V.heap.size V wx → wx.cell? ⟨w.heap.size, 0, none⟩ = some (.int .i64 k) ∧ wx.cell? ⟨w.heap.size, 1, none⟩ = some (.int .i64 t) ∧ wx.cell? ⟨w.heap.size, 2, none⟩ = some (.string s) ∧ wx.cell? ⟨w.heap.size, 3, none⟩ = some (.int .i64 x) ∧ wx.cell? ⟨w.heap.size, 4, none⟩ = some (.slice A m cap) ∧ wx.cell? ⟨w.heap.size, 5, none⟩ = some (.int .i64 m0) ∧ wx.cell? ⟨w.heap.size, 6, none⟩ = some (.int .i64 m1) ∧ wx.cell? ⟨w.heap.size, 7, none⟩ = some (.int .i64 m2) := fun wx h => by
    have f1 := (hA.below h hA.lt).cell
    exact ⟨f1 0, f1 1, f1 2, f1 3, f1 4, f1 5, f1 6, f1 7⟩
  have hsm := fun wx (h : Below V.heap.size V wx) => small_any k t s x A m cap w.heap.size es m0 m1 m2 wx (ha0.below (h.mono hb0.size)) (Nat.le_trans hb0.size h.size) hm hf.es hf.s1
  have hp1 := fun wx (h : Below V.heap.size V wx) (h1 : m ≤ 1000000000) => shipPut_any n k t s x A m cap w.heap.size es m0 m1 m2 wx (ha0.below (h.mono hb0.size)) (Nat.le_trans hb0.size h.size) h1 hf.es hf.s1
  have hp2 := fun wx (h : Below V.heap.size V wx) (h1 : m ≤ 1000000000) => refPutEntry_any n k t s x A m cap w.heap.size es m0 m1 m2 wx (ha0.below (h.mono hb0.size)) (Nat.le_trans hb0.size h.size) h1 hf.es hf.s1
  have hg1 := fun (w : World) (h : b.size ≤ 100000) => shipGet_any b w h
  have hg2 := fun (w : World) (h : b.size ≤ 100000) => refGetEntry_any b w h
  have hrow := fun wx (h : Below V.heap.size V wx) => ha0.below (h.mono hb0.size)
  have hm12 : smallC s es = true → m ≤ 12 := fun h => by have h1 := (smallC_few h).1; have := ha.len; rw [evVs_length] at this; omega
  have hback := fun h => getN_put n (⟨k, t, s, x, es, m0, m1, m2⟩ : Cmd) h hf
  have hpf := putN_few n (⟨k, t, s, x, es, m0, m1, m2⟩ : Cmd)
  have hcan : sameC (Cmd.can (⟨k, t, s, x, es, m0, m1, m2⟩ : Cmd)) (⟨k, t, s, x, es, m0, m1, m2⟩ : Cmd) = true := (sameC_iff _ _).2 (can_can _)
  have hcl : (Cmd.can (⟨k, t, s, x, es, m0, m1, m2⟩ : Cmd)).es.length = es.length := by simp [Cmd.can]
  have hfew := getN_few b.data.toList
  generalize getN b.data.toList = y at hg1 hg2 hfew
  generalize putN n (⟨k, t, s, x, es, m0, m1, m2⟩ : Cmd) = p at hp1 hp2 hback hpf
  have hyself : sameC y.2.1 y.2.1 = true := (sameC_iff _ _).2 rfl
  have hss := fun (A1 : Option Addr) (n1 c1 : Nat) (A2 : Option Addr) (n2 c2 B : Nat) (wx : World) (h1 : SlR wx B 4 A1 n1 (evVs y.2.1.es)) (h2 : SlR wx B 4 A2 n2 (evVs y.2.1.es)) (hB : B ≤ wx.heap.size) => refSame_any y.2.1.k y.2.1.t y.2.1.s y.2.1.x A1 n1 c1 y.2.1.es y.2.1.m0 y.2.1.m1 y.2.1.m2 y.2.1.k y.2.1.t y.2.1.s y.2.1.x A2 n2 c2 y.2.1.es y.2.1.m0 y.2.1.m1 y.2.1.m2 B wx h1 h2 hB (by have := h1.len; rw [evVs_length] at this; omega) (by have := h2.len; rw [evVs_length] at this; omega)
  have hyy : (⟨y.2.1.k, y.2.1.t, y.2.1.s, y.2.1.x, y.2.1.es, y.2.1.m0, y.2.1.m1, y.2.1.m2⟩ : Cmd) = y.2.1 := rfl
  rw [hyy, hyself] at hss
  have HB := Below.refl V.heap.size V
  obtain ⟨c00, c01, c02, c03, c04, c05, c06, c07⟩ := hS0 _ HB
  have HS := Lib.hid hS0; have Hb0 := Lib.hid hb0; have Hsm := Lib.hid hsm; have Hp1 := Lib.hid hp1; have Hp2 := Lib.hid hp2; have Hg1 := Lib.hid hg1; have Hg2 := Lib.hid hg2; have Hrow := Lib.hid hrow; have Hm12 := Lib.hid hm12; have Hback := Lib.hid hback; have Hcan := Lib.hid hcan; have Hss := Lib.hid hss; have Hcl := Lib.hid hcl; have Hpf := Lib.hid hpf
  clear hA hb0 ha0 hS0 hsm hp1 hp2 hg1 hg2 hrow hm12 hback hpf hcan hcl hss hyy hyself hfew ha hf
  cases hq : smallC s es with
  | false =>
    have Hsm := Lib.hid (fun wx h => by have := Hsm.out wx h; rw [hq] at this; exact this)
    clear hq
    go_enter Try.func3, Try.ntmps3
    go_wp2_with fail
    (try rw [hV])
    refine (Hsm.out _ HB).mono ?_
    rintro e wx ⟨rfl, hb⟩
    replace HB := HB.trans (hb.mono HB.size)
    clear hb c00 c01 c02 c03 c04 c05 c06 c07
    obtain ⟨c00, c01, c02, c03, c04, c05, c06, c07⟩ := HS.out _ HB
    go_wp2_with fail
    refine (alive22_any _).mono ?_
    rintro e wx ⟨rfl, hb⟩
    replace HB := HB.trans (hb.mono HB.size)
    clear hb
    go_wp2_with fail
    go_ret
    exact ⟨rfl, Hb0.out.trans (HB.mono Hb0.out.size)⟩
  | true =>
    have hm9 := Hm12.out hq
    have Hsm := Lib.hid (fun wx h => by have := Hsm.out wx h; rw [hq] at this; exact this)
    have Hq := Lib.hid hq
    clear hq
    by_cases hb4 : 4000 < b.size
    · have g1 : decide ((4000 : Int) < (b.size : Int)) = true := decide_eq_true (by omega)
      clear hb4
      go_enter Try.func3, Try.ntmps3
      go_wp2_with fail
      (try rw [hV])
      refine (Hsm.out _ HB).mono ?_
      rintro e wx ⟨rfl, hb⟩
      replace HB := HB.trans (hb.mono HB.size)
      clear hb c00 c01 c02 c03 c04 c05 c06 c07
      obtain ⟨c00, c01, c02, c03, c04, c05, c06, c07⟩ := HS.out _ HB
      go_wp2_with fail
      refine (alive22_any _).mono ?_
      rintro e wx ⟨rfl, hb⟩
      replace HB := HB.trans (hb.mono HB.size)
      clear hb
      go_wp2_with fail
      go_ret
      exact ⟨rfl, Hb0.out.trans (HB.mono Hb0.out.size)⟩
    · have g1 : decide ((4000 : Int) < (b.size : Int)) = false := decide_eq_false (by omega)
      have hb5 : b.size ≤ 100000 := by omega
      have m9 : m ≤ 1000000000 := by omega
      obtain ⟨S, hS⟩ : ∃ S : ByteArray, (⟨p.1.toArray⟩ : ByteArray) = S := ⟨_, rfl⟩
      have Hp1 := Lib.hid (fun wx h => by have := Hp1.out wx h m9; rw [hS] at this; exact this)
      have Hp2 := Lib.hid (fun wx h => by have := Hp2.out wx h m9; rw [hS] at this; exact this)
      have Hg1 := Lib.hid (fun w => Hg1.out w hb5); have Hg2 := Lib.hid (fun w => Hg2.out w hb5)
      have HSq := Lib.hid hS
      have n1 : (S.toList != S.toList) = false := by simp
      have n2 : (p.2 != p.2) = false := by simp
      have n3 : (y.2.2 != y.2.2) = false := by simp
      have n4 : (y.1 != y.1) = false := by simp
      clear hb4 hb5 hS
      go_enter Try.func3, Try.ntmps3
      go_wp2_with fail
      (try rw [hV])
      refine (Hsm.out _ HB).mono ?_
      rintro e wx ⟨rfl, hb⟩
      replace HB := HB.trans (hb.mono HB.size)
      clear hb c00 c01 c02 c03 c04 c05 c06 c07
      obtain ⟨c00, c01, c02, c03, c04, c05, c06, c07⟩ := HS.out _ HB
      go_wp2_with fail
      refine (Hp1.out _ HB).mono ?_
      rintro e wx ⟨rfl, hb⟩
      replace HB := HB.trans (hb.mono HB.size)
      clear hb c00 c01 c02 c03 c04 c05 c06 c07
      obtain ⟨c00, c01, c02, c03, c04, c05, c06, c07⟩ := HS.out _ HB
      go_wp2_with fail
      refine (Hp2.out _ HB).mono ?_
      rintro e wx ⟨rfl, hb⟩
      replace HB := HB.trans (hb.mono HB.size)
      clear hb c00 c01 c02 c03 c04 c05 c06 c07
      obtain ⟨c00, c01, c02, c03, c04, c05, c06, c07⟩ := HS.out _ HB
      go_wp2_with fail
      refine (Hg1.out _).mono ?_
      rintro e w3 ⟨A1, n1', c1, rfl, hown1, hb⟩
      replace HB := HB.trans (hb.mono HB.size)
      clear hb c00 c01 c02 c03 c04 c05 c06 c07
      go_wp2_with fail
      obtain ⟨w4, hw4⟩ : ∃ V, w3.alloc (.cells #[.int .i64 y.1, .int .i64 y.2.1.k, .int .i64 y.2.1.t, .string y.2.1.s, .int .i64 y.2.1.x, .slice A1 n1' c1, .int .i64 y.2.1.m0, .int .i64 y.2.1.m1, .int .i64 y.2.1.m2] 33) = V := ⟨_, rfl⟩
      have hG4 : BlkIs w4 w3.heap.size 33 #[.int .i64 y.1, .int .i64 y.2.1.k, .int .i64 y.2.1.t, .string y.2.1.s, .int .i64 y.2.1.x, .slice A1 n1' c1, .int .i64 y.2.1.m0, .int .i64 y.2.1.m1, .int .i64 y.2.1.m2] := by rw [← hw4]; exact BlkIs.new _ _ _
      have hb4 : Below w3.heap.size w3 w4 := by rw [← hw4]; exact (Below.refl _ _).alloc (Nat.le_refl _) _
      have hs4 := (SlR.own hown1).below hb4
      replace HB := HB.trans (hb4.mono HB.size)
      rw [hw4]
      clear hw4 hown1
      refine (Hg2.out _).mono ?_
      rintro e w5 ⟨A2, n2', c2, rfl, hown2, hb⟩
      replace HB := HB.trans (hb.mono HB.size)
      obtain ⟨w6, hw6⟩ : ∃ V, w5.alloc (.cells #[.int .i64 y.2.1.k, .int .i64 y.2.1.t, .string y.2.1.s, .int .i64 y.2.1.x, .slice A2 n2' c2, .int .i64 y.2.1.m0, .int .i64 y.2.1.m1, .int .i64 y.2.1.m2] 26) = V := ⟨_, rfl⟩
      have hK6 : BlkIs w6 w5.heap.size 26 #[.int .i64 y.2.1.k, .int .i64 y.2.1.t, .string y.2.1.s, .int .i64 y.2.1.x, .slice A2 n2' c2, .int .i64 y.2.1.m0, .int .i64 y.2.1.m1, .int .i64 y.2.1.m2] := by rw [← hw6]; exact BlkIs.new _ _ _
      have hb6 : Below w5.heap.size w5 w6 := by rw [← hw6]; exact (Below.refl _ _).alloc (Nat.le_refl _) _
      have hG6 := (hG4.below hb hG4.lt).below hb6 (Nat.lt_of_lt_of_le hG4.lt hb.size)
      have h34 := hb4.size; have h45 := hb.size; have h56 := hb6.size
      have hs6 := ((hs4.below (hb.mono h34)).below (hb6.mono (Nat.le_trans h34 h45))).more (B' := w6.heap.size) (by omega)
      have hk6 := ((SlR.own hown2).below hb6).more (B' := w6.heap.size) h56
      replace HB := HB.trans (hb6.mono HB.size)
      have hcG := hG6.cell; have hcK := hK6.cell
      have hsame := Hss.out A1 n1' c1 A2 n2' c2 w6.heap.size w6 hs6 hk6 (Nat.le_refl _)
      have Hsame := Lib.hid hsame
      clear hb hb4 hb6 hG4 hs4 hs6 hk6 hown2 hsame h34 h45 h56
      go_wp2_with fail
      (try rw [hw6])
      refine Hsame.out.mono ?_
      rintro e w7 ⟨rfl, hb⟩
      replace HB := HB.trans (hb.mono HB.size)
      clear hb hcG hcK hG6 hK6 hw6
      obtain ⟨c00, c01, c02, c03, c04, c05, c06, c07⟩ := HS.out _ HB
      by_cases hz : p.2 = 0
      · have z1 : (p.2 != 0) = false := by simpa using hz
        have hbk := Hback.out hz
        have hgS : ∀ w, Calls Try.prog 12 #[.string S] w fun e w' => ∃ A' n' c', e = .returned (.tuple #[.agg #[.int .i64 n, .int .i64 (Cmd.can (⟨k, t, s, x, es, m0, m1, m2⟩ : Cmd)).k, .int .i64 (Cmd.can (⟨k, t, s, x, es, m0, m1, m2⟩ : Cmd)).t, .string (Cmd.can (⟨k, t, s, x, es, m0, m1, m2⟩ : Cmd)).s, .int .i64 (Cmd.can (⟨k, t, s, x, es, m0, m1, m2⟩ : Cmd)).x, .slice A' n' c', .int .i64 (Cmd.can (⟨k, t, s, x, es, m0, m1, m2⟩ : Cmd)).m0, .int .i64 (Cmd.can (⟨k, t, s, x, es, m0, m1, m2⟩ : Cmd)).m1, .int .i64 (Cmd.can (⟨k, t, s, x, es, m0, m1, m2⟩ : Cmd)).m2], .int .i64 0]) ∧ w'.ownsRow w.heap.size 57 4 (.slice A' n' c') n' (evVs (Cmd.can (⟨k, t, s, x, es, m0, m1, m2⟩ : Cmd)).es) ∧ Below w.heap.size w w' := fun w => by
          have h1 := Hpf.out
          have h := shipGet_any S w (by rw [← HSq.out, size_mk]; omega)
          rw [show S.data.toList = p.1 from by rw [← HSq.out], hbk] at h
          exact h
        have hcan := Hcan.out
        have hcl := Hcl.out
        have hel : es.length = m := by have := (Hrow.out _ HB).len; rw [evVs_length] at this; omega
        obtain ⟨q, hqd⟩ : ∃ q, Cmd.can (⟨k, t, s, x, es, m0, m1, m2⟩ : Cmd) = q := ⟨_, rfl⟩
        rw [hqd] at hgS hcan hcl
        have hs2 := fun (A3 : Option Addr) (n3 c3 B : Nat) (wx : World) (h1 : SlR wx B 4 A3 n3 (evVs q.es)) (h2 : SlR wx B 4 A m (evVs es)) (hB : B ≤ wx.heap.size) => refSame_any q.k q.t q.s q.x A3 n3 c3 q.es q.m0 q.m1 q.m2 k t s x A m cap es m0 m1 m2 B wx h1 h2 hB (by have := h1.len; rw [evVs_length] at this; omega) m9
        have hqq : (⟨q.k, q.t, q.s, q.x, q.es, q.m0, q.m1, q.m2⟩ : Cmd) = q := rfl
        rw [hqq, hcan] at hs2
        have HgS := Lib.hid hgS; have Hs2 := Lib.hid hs2
        have n5 : (n == n) = true := by simp
        clear hz hbk hgS hcan hcl hel hqd hs2 hqq
        go_wp2_with fail
        refine (HgS.out _).mono ?_
        rintro e w8 ⟨A3, n3', c3, rfl, hown3, hb⟩
        replace HB := HB.trans (hb.mono HB.size)
        clear hb c00 c01 c02 c03 c04 c05 c06 c07
        go_wp2_with fail
        obtain ⟨w9, hw9⟩ : ∃ V, w8.alloc (.cells #[.int .i64 n, .int .i64 q.k, .int .i64 q.t, .string q.s, .int .i64 q.x, .slice A3 n3' c3, .int .i64 q.m0, .int .i64 q.m1, .int .i64 q.m2] 33) = V := ⟨_, rfl⟩
        have hG9 : BlkIs w9 w8.heap.size 33 #[.int .i64 n, .int .i64 q.k, .int .i64 q.t, .string q.s, .int .i64 q.x, .slice A3 n3' c3, .int .i64 q.m0, .int .i64 q.m1, .int .i64 q.m2] := by rw [← hw9]; exact BlkIs.new _ _ _
        have hb9 : Below w8.heap.size w8 w9 := by rw [← hw9]; exact (Below.refl _ _).alloc (Nat.le_refl _) _
        have hs9 := (SlR.own hown3).below hb9
        replace HB := HB.trans (hb9.mono HB.size)
        rw [hw9]
        clear hw9 hown3
        refine (alive22_any _).mono ?_
        rintro e w10 ⟨rfl, hb⟩
        replace HB := HB.trans (hb.mono HB.size)
        have h89 := hb9.size; have h910 := hb.size
        have hG10 := hG9.below hb hG9.lt
        have hs10 := (hs9.below (hb.mono h89)).more (B' := w10.heap.size) (by omega)
        have hr10 := (Hrow.out _ HB).more (B' := w10.heap.size) (Nat.le_trans Hb0.out.size HB.size)
        have hcG := hG10.cell
        have hsame := Hs2.out A3 n3' c3 w10.heap.size w10 hs10 hr10 (Nat.le_refl _)
        have Hsame := Lib.hid hsame
        obtain ⟨c00, c01, c02, c03, c04, c05, c06, c07⟩ := HS.out _ HB
        clear hb hb9 hG9 hs9 hs10 hr10 hsame hG10 h89 h910
        go_wp2_with fail
        refine Hsame.out.mono ?_
        rintro e w11 ⟨rfl, hb⟩
        replace HB := HB.trans (hb.mono HB.size)
        clear hb
        go_wp2_with fail
        go_ret
        exact ⟨rfl, Hb0.out.trans (HB.mono Hb0.out.size)⟩
      · have z1 : (p.2 != 0) = true := by simpa using hz
        clear hz
        go_wp2_with fail
        refine (alive22_any _).mono ?_
        rintro e wx ⟨rfl, hb⟩
        replace HB := HB.trans (hb.mono HB.size)
        clear hb
        go_wp2_with fail
        go_ret
        exact ⟨rfl, Hb0.out.trans (HB.mono Hb0.out.size)⟩
end Go.Proofs.Ytnnnilpgnjndlaa
