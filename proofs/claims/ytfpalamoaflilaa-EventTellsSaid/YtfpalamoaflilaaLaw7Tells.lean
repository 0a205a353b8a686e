/- chapter 7: EventTells, walked (printed by mktells7.py) -/
import Derived.Test.YtfpalamoaflilaaLaw7TellsE
import Derived.Test.YtfpalamoaflilaaSliceStep
import Derived.Test.YtfpalamoaflilaaManual
import Derived.Deep.RegionHeld3
import Derived.Deep.RegionLaw
import Derived.Deep.DeepCutAuto
import Derived.Deep.CutBlock
namespace Go.Proofs.Ytfpalamoaflilaa
open Go.RowKit
set_option maxHeartbeats 100000000
set_option maxRecDepth 100000
set_option linter.unusedVariables false
attribute [local go_sem] run_store_flt

def e77 : Ev := ⟨77, ⟨#[]⟩, ⟨#[]⟩, 0⟩
theorem own77 {w : World} {base n : Nat} {v : Value} {xs : List Value} (h : w.ownsRow base 33 4 v (n + 1) xs) : ∃ g c, v = .slice (some ⟨g, 0, none⟩) (n + 1) c ∧ n + 1 ≤ c ∧ base ≤ g := by
  rcases h.2 with ⟨_, h0⟩ | ⟨g, cap, cur, hv, hbg, _, hc, _⟩
  · omega
  · exact ⟨g, cap, hv, hc, hbg⟩
theorem rdEvs_few2 (n : Nat) (bs : List UInt8) (x : Int) : (rdEvs n bs x).1.length ≤ n := by
  induction n generalizing bs x with
  | zero => simp [rdEvs]
  | succ n ih =>
    rw [rdEvs]
    split
    · simp only [List.length_cons]
      exact Nat.succ_le_succ (ih _ _)
    · simp
theorem getC_few (bs : List UInt8) : (getC bs).1.es.length ≤ 255 := by
  have h : (readC bs).1.es.length ≤ 255 := by
    unfold readC
    exact Nat.le_trans (rdEvs_few2 _ _ _) (Nat.le_of_lt_succ (inNum_lt 1 _ _))
  unfold getC
  split
  · exact Nat.zero_le _
  · split
    · exact Nat.zero_le _
    · exact h
theorem row77 {w : World} {base g c n : Nat} {es : List Ev} (hl : es.length = n) (h : w.ownsRow base 33 4 (.slice (some ⟨g, 0, none⟩) (n + 1) c) (n + 1) (evVs es ++ evVs [e77])) :
    SlR w w.heap.size 4 (some ⟨g, 0, none⟩) n (evVs es) ∧ w.cell? ⟨g, n * 4, none⟩ = some (.int .i64 77) ∧ g < w.heap.size := by
  have h1 := SlR.own h
  have h2 := h1.first (m := n) (by omega)
  rw [List.take_append_of_le_length (by rw [evVs_length, hl]; exact Nat.le_refl _), List.take_of_length_le (by rw [evVs_length, hl]; exact Nat.le_refl _)] at h2
  rw [← evVs_append] at h1
  obtain ⟨ad, p, hA, hb, hp, hat⟩ := h1.ev (k := n) (by omega)
  injection hA with hA
  subst hA
  have hp2 : p = e77 := by
    rw [List.getElem?_append_right (by omega), hl, Nat.sub_self] at hp
    simpa using hp.symm
  subst hp2
  refine ⟨h2, ?_, hb⟩
  have h3 := hat.1
  unfold Addr.add at h3
  split at h3
  · next h0 => rw [h0]; exact h3
  · simpa [e77] using h3

theorem tells7_main (k t : Int) (s : ByteArray) (x : Int) (A : Option Addr) (n c : Nat) (es : List Ev) (m0 m1 m2 : Int) (k' t' : Int) (s' : ByteArray) (x' : Int) (D : Option Addr) (m d : Nat) (fs : List Ev) (p0 p1 p2 : Int) (b : ByteArray) (w : World)
    (ha : SlR w w.heap.size 4 A n (evVs es)) (hd : SlR w w.heap.size 4 D m (evVs fs)) (hn : n ≤ 9223372036854775807) (hm : m ≤ 9223372036854775807) (hf : (⟨k, t, s, x, es, m0, m1, m2⟩ : Cmd).fits) (hf2 : (⟨k', t', s', x', fs, p0, p1, p2⟩ : Cmd).fits) (hb : b.size ≤ 9223372036854775807)
    (h1 : smallC s es = true) (h2 : smallC s' fs = true) (h3 : b.size ≤ 4000) :
    Calls Try.prog 6 #[.agg #[.int .i64 k, .int .i64 t, .string s, .int .i64 x, .slice A n c, .int .i64 m0, .int .i64 m1, .int .i64 m2], .agg #[.int .i64 k', .int .i64 t', .string s', .int .i64 x', .slice D m d, .int .i64 p0, .int .i64 p1, .int .i64 p2], .string b] w fun e w' => e = .returned (.bool true) ∧ Below w.heap.size w w' := by
  obtain ⟨i0, hi0, hz0, hz1, hz2⟩ := info_parts info_ev
  obtain ⟨V0, hV0⟩ : ∃ V, w.alloc (.cells #[.int .i64 k, .int .i64 t, .string s, .int .i64 x, .slice A n c, .int .i64 m0, .int .i64 m1, .int .i64 m2] 26) = V := ⟨_, rfl⟩
  have hA0 : BlkIs V0 w.heap.size 26 #[.int .i64 k, .int .i64 t, .string s, .int .i64 x, .slice A n c, .int .i64 m0, .int .i64 m1, .int .i64 m2] := by rw [← hV0]; exact BlkIs.new _ _ _
  have hb0 : Below w.heap.size w V0 := by rw [← hV0]; exact (Below.refl _ _).alloc (Nat.le_refl _) _
  obtain ⟨V, hV⟩ : ∃ V, V0.alloc (.cells #[.int .i64 k', .int .i64 t', .string s', .int .i64 x', .slice D m d, .int .i64 p0, .int .i64 p1, .int .i64 p2] 26) = V := ⟨_, rfl⟩
  have hD : BlkIs V V0.heap.size 26 #[.int .i64 k', .int .i64 t', .string s', .int .i64 x', .slice D m d, .int .i64 p0, .int .i64 p1, .int .i64 p2] := by rw [← hV]; exact BlkIs.new _ _ _
  have hb1 : Below V0.heap.size V0 V := by rw [← hV]; exact (Below.refl _ _).alloc (Nat.le_refl _) _
  have hA := hA0.below hb1 hA0.lt
  have hbV : Below w.heap.size w V := hb0.trans (hb1.mono hb0.size)
  have ha1 := ha.below hbV; have hd1 := hd.below hbV
  have hla : es.length = n := by have := ha.len; rw [evVs_length] at this; omega
  have hld : fs.length = m := by have := hd.len; rw [evVs_length] at this; omega
  have hsmA := fun wx (h : Below V.heap.size V wx) => small_any k t s x A n c w.heap.size es m0 m1 m2 wx (ha1.below (h.mono hbV.size)) (Nat.le_trans hbV.size h.size) hn hf.es hf.s1
  have hsmD := fun wx (h : Below V.heap.size V wx) => small_any k' t' s' x' D m d w.heap.size fs p0 p1 p2 wx (hd1.below (h.mono hbV.size)) (Nat.le_trans hbV.size h.size) hm hf2.es hf2.s1
  have hS0 : ∀ wx, Below V.heap.size V wx → (∀ i, wx.cell? ⟨w.heap.size, i, none⟩ = (#[.int .i64 k, .int .i64 t, .string s, .int .i64 x, .slice A n c, .int .i64 m0, .int .i64 m1, .int .i64 m2] : Array Value)[i]?) ∧ (∀ i, wx.cell? ⟨V0.heap.size, i, none⟩ = (#[.int .i64 k', .int .i64 t', .string s', .int .i64 x', .slice D m d, .int .i64 p0, .int .i64 p1, .int .i64 p2] : Array Value)[i]?) := fun wx h => ⟨(hA.below h hA.lt).cell, (hD.below h hD.lt).cell⟩
  have HB := Below.refl V.heap.size V
  obtain ⟨cA, cD⟩ := hS0 _ HB
  have hn12 : n ≤ 12 := by have := (smallC_few h1).1; omega
  have hm12 : m ≤ 12 := by have := (smallC_few h2).1; omega
  rw [h1] at hsmA; rw [h2] at hsmD
  have g1 : decide ((4000 : Int) < (b.size : Int)) = false := decide_eq_false (by omega)
  have HS := Lib.hid hS0; have HbV := Lib.hid hbV; have HsmA := Lib.hid hsmA; have HsmD := Lib.hid hsmD; have Ha1 := Lib.hid ha1; have Hd1 := Lib.hid hd1; have Hla := Lib.hid hla; have Hld := Lib.hid hld; have Hf := Lib.hid hf; have Hf2 := Lib.hid hf2; have HA := Lib.hid hA; have HD := Lib.hid hD
  clear hA0 hb0 hD hb1 hA hbV ha1 hd1 hla hld hsmA hsmD hS0 ha hd hf hf2 h1 h2
  go_enter Try.func6, Try.ntmps6
  go_wp2_with fail
  (try rw [hV0])
  (try rw [hV])
  refine (HsmA.out _ HB).mono ?_
  rintro e wx ⟨rfl, hb⟩
  replace HB := HB.trans (hb.mono HB.size)
  clear hb cA cD
  obtain ⟨cA, cD⟩ := HS.out _ HB
  go_wp2_with fail
  refine (HsmD.out _ HB).mono ?_
  rintro e wx ⟨rfl, hb⟩
  replace HB := HB.trans (hb.mono HB.size)
  clear hb cA cD
  obtain ⟨cA, cD⟩ := HS.out _ HB
  go_wp2_with fail
  have HB0 := Lib.hid HB
  clear cA cD
  go_loopw [7] (fun i wr => ∃ j : Nat, j ≤ n ∧ i = .int .i64 (j : Int) ∧ Below V.heap.size V wr) (fun i _ => n - (intOf i).toNat)
  case atStart => exact ⟨0, Nat.zero_le _, rfl, HB0.out⟩
  case round =>
    obtain ⟨j, hj, rfl, HB⟩ := hrel
    have hj0 : 0 ≤ (j : Int) := by omega
    obtain ⟨cA, cD⟩ := HS.out _ HB
    have hcA := cA 4; have hcD := cD 4
    simp at hcA hcD
    by_cases hlt : j < n
    · clear cA cD
      obtain ⟨ad, ⟨a0, a1, a2, a3⟩, rfl, had, hp, hat⟩ := Ha1.out.ev hlt
      have hfe := Hf.out.es _ (List.mem_of_getElem? hp)
      have t1 := hfe.t1; have t2 := hfe.d1
      dsimp only at t1 t2
      have hv1 := fun w => valid_any a0 a1 a2 a3 w t1 t2
      have hv2 := fun w => refValid7_any a0 a1 a2 a3 w t1 t2
      generalize validE ⟨a0, a1, a2, a3⟩ = q1 at hv1 hv2
      have hj1 : (j : Int) < (n : Int) := by omega
      have e1 : (q1 != q1) = false := by simp
      have Hv1 := Lib.hid hv1; have Hv2 := Lib.hid hv2
      have hlV : w.heap.size ≤ V.heap.size := HbV.out.size
      by_cases hm0 : 0 < m
      · as_aux_lemma =>
        obtain ⟨bd, ⟨b0, b1, b2, b3⟩, rfl, hbd, hq, hat2⟩ := Hd1.out.ev hm0
        have hbe : bd.add (0 * 4) = bd := by simp [Addr.add]
        rw [hbe] at hat2
        have dm : decide ((0 : Int) < (m : Int)) = true := decide_eq_true (by omega)
        have hs1 := fun w => sameEvent_any ⟨a0, a1, a2, a3⟩ ⟨b0, b1, b2, b3⟩ w
        have hs2 := fun w => refSameEvent_any ⟨a0, a1, a2, a3⟩ ⟨b0, b1, b2, b3⟩ w
        generalize sameE ⟨a0, a1, a2, a3⟩ ⟨b0, b1, b2, b3⟩ = q2 at hs1 hs2
        have e2 : (q2 != q2) = false := by simp
        unfold evA at hs1 hs2
        dsimp only at hs1 hs2
        have hT0 : ∀ wx, Below V.heap.size V wx → (wx.cell? ⟨w.heap.size, 4, none⟩ = some (.slice (some ad) n c) ∧ wx.cell? ⟨V0.heap.size, 4, none⟩ = some (.slice (some bd) m d)) ∧ (wx.cell? (ad.add (j * 4)) = some (.int .i64 a0) ∧ wx.cell? ⟨(ad.add (j * 4)).block, (ad.add (j * 4)).off + 1, none⟩ = some (.string a1) ∧ wx.cell? ⟨(ad.add (j * 4)).block, (ad.add (j * 4)).off + 2, none⟩ = some (.string a2) ∧ wx.cell? ⟨(ad.add (j * 4)).block, (ad.add (j * 4)).off + 3, none⟩ = some (.float .f64 a3)) ∧ (wx.cell? bd = some (.int .i64 b0) ∧ wx.cell? ⟨bd.block, bd.off + 1, none⟩ = some (.string b1) ∧ wx.cell? ⟨bd.block, bd.off + 2, none⟩ = some (.string b2) ∧ wx.cell? ⟨bd.block, bd.off + 3, none⟩ = some (.float .f64 b3)) := fun wx h =>
          ⟨⟨(HS.out _ h).1 4, (HS.out _ h).2 4⟩, hat.below h (by rw [add_block]; omega), hat2.below h (by omega)⟩
        have hS := hT0 _ HB
        have hbA : (ad.add (j * 4)).block < wr.heap.size := by have := HB.size; rw [add_block]; omega
        have hbD : bd.block < wr.heap.size := by have := HB.size; omega
        have HT := Lib.hid hT0; have Hs1 := Lib.hid hs1; have Hs2 := Lib.hid hs2
        clear hp hat hfe hv1 hv2 hq hat2 hs1 hs2 hT0 had hbd hbe
        go_wp2_with fail
        go_region_held3 (fun wx => (wx.cell? ⟨w.heap.size, 4, none⟩ = some (.slice (some ad) n c) ∧ wx.cell? ⟨V0.heap.size, 4, none⟩ = some (.slice (some bd) m d)) ∧ (wx.cell? (ad.add (j * 4)) = some (.int .i64 a0) ∧ wx.cell? ⟨(ad.add (j * 4)).block, (ad.add (j * 4)).off + 1, none⟩ = some (.string a1) ∧ wx.cell? ⟨(ad.add (j * 4)).block, (ad.add (j * 4)).off + 2, none⟩ = some (.string a2) ∧ wx.cell? ⟨(ad.add (j * 4)).block, (ad.add (j * 4)).off + 3, none⟩ = some (.float .f64 a3)) ∧ (wx.cell? bd = some (.int .i64 b0) ∧ wx.cell? ⟨bd.block, bd.off + 1, none⟩ = some (.string b1) ∧ wx.cell? ⟨bd.block, bd.off + 2, none⟩ = some (.string b2) ∧ wx.cell? ⟨bd.block, bd.off + 3, none⟩ = some (.float .f64 b3))) (first | exact hS | go_keep) ((first
          | (go_at_call 13; refine (Hv1.out _).mono ?_; rintro e w1 ⟨rfl, hb1⟩; have HB := HB.trans ((by first | exact hb1 | exact below_undrew hb1 : Below _ _ _).mono HB.size); have hS := HT.out _ HB)
          | (go_at_call 20; refine (Hv2.out _).mono ?_; rintro e w1 ⟨rfl, hb1⟩; have HB := HB.trans ((by first | exact hb1 | exact below_undrew hb1 : Below _ _ _).mono HB.size); have hS := HT.out _ HB)
          | (go_at_call 21; refine (Hs1.out _).mono ?_; rintro e w1 ⟨rfl, hb1⟩; have HB := HB.trans ((by first | exact hb1 | exact below_undrew hb1 : Below _ _ _).mono HB.size); have hS := HT.out _ HB)
          | (go_at_call 22; refine (Hs2.out _).mono ?_; rintro e w1 ⟨rfl, hb1⟩; have HB := HB.trans ((by first | exact hb1 | exact below_undrew hb1 : Below _ _ _).mono HB.size); have hS := HT.out _ HB)))
        all_goals
          have HB' := Lib.hid HB
          clear HB hS
          go_wp2_with fail
          go_roundw
          case rel => exact ⟨j + 1, by omega, by go_num, HB'.out⟩
          case measure => simp [intOf] <;> omega
      · as_aux_lemma =>
        have dm : decide ((0 : Int) < (m : Int)) = false := decide_eq_false (by omega)
        have dmn : decide (0 < m) = false := decide_eq_false hm0
        have hT0 : ∀ wx, Below V.heap.size V wx → (wx.cell? ⟨w.heap.size, 4, none⟩ = some (.slice (some ad) n c) ∧ wx.cell? ⟨V0.heap.size, 4, none⟩ = some (.slice D m d)) ∧ (wx.cell? (ad.add (j * 4)) = some (.int .i64 a0) ∧ wx.cell? ⟨(ad.add (j * 4)).block, (ad.add (j * 4)).off + 1, none⟩ = some (.string a1) ∧ wx.cell? ⟨(ad.add (j * 4)).block, (ad.add (j * 4)).off + 2, none⟩ = some (.string a2) ∧ wx.cell? ⟨(ad.add (j * 4)).block, (ad.add (j * 4)).off + 3, none⟩ = some (.float .f64 a3)) := fun wx h =>
          ⟨⟨(HS.out _ h).1 4, (HS.out _ h).2 4⟩, hat.below h (by rw [add_block]; omega)⟩
        have hS := hT0 _ HB
        have hbA : (ad.add (j * 4)).block < wr.heap.size := by have := HB.size; rw [add_block]; omega
        have HT := Lib.hid hT0
        clear hp hat hfe hv1 hv2 hT0 had hm0 e1
        cases q1
        case false =>
          go_wp2_with fail
          refine wp_region_held_drew (S := (fun wx => (wx.cell? ⟨w.heap.size, 4, none⟩ = some (.slice (some ad) n c) ∧ wx.cell? ⟨V0.heap.size, 4, none⟩ = some (.slice D m d)) ∧ (wx.cell? (ad.add (j * 4)) = some (.int .i64 a0) ∧ wx.cell? ⟨(ad.add (j * 4)).block, (ad.add (j * 4)).off + 1, none⟩ = some (.string a1) ∧ wx.cell? ⟨(ad.add (j * 4)).block, (ad.add (j * 4)).off + 2, none⟩ = some (.string a2) ∧ wx.cell? ⟨(ad.add (j * 4)).block, (ad.add (j * 4)).off + 3, none⟩ = some (.float .f64 a3)))) (by kernel_rfl) (HT.out _ (below_drewN HB 1)) (fun hHeld => ?_)
          refine take_at 0 (some 38) (v := ?_) rfl (by kernel_rfl) (by kernel_rfl) (by kernel_rfl) (by kernel_rfl) (fun _ _ _ h => h) (Or.inl ⟨by kernel_rfl, ?_⟩) (by assumption) ?_
          rotate_left
          · (intro w hSw; (try dsimp only at hSw); go_simp; try with_reducible rfl)
          try simp only [Act.put, List.setIfInBounds_toArray, List.set_cons_zero, List.set_cons_succ]
          refine take_at 1 (some 39) (v := ?_) rfl (by kernel_rfl) (by kernel_rfl) (by kernel_rfl) (by kernel_rfl) (fun _ _ _ h => h) (Or.inl ⟨by kernel_rfl, ?_⟩) (by assumption) ?_
          rotate_left
          · (intro w hSw; (try dsimp only at hSw); go_simp; try with_reducible rfl)
          try simp only [Act.put, List.setIfInBounds_toArray, List.set_cons_zero, List.set_cons_succ]
          refine take_at 2 (some 40) (v := ?_) rfl (by kernel_rfl) (by kernel_rfl) (by kernel_rfl) (by kernel_rfl) (fun _ _ _ h => h) (Or.inl ⟨by kernel_rfl, ?_⟩) (by assumption) ?_
          rotate_left
          · (intro w hSw; (try dsimp only at hSw); go_simp; try with_reducible rfl)
          try simp only [Act.put, List.setIfInBounds_toArray, List.set_cons_zero, List.set_cons_succ]
          refine take_at 3 (some 41) (v := ?_) rfl (by kernel_rfl) (by kernel_rfl) (by kernel_rfl) (by kernel_rfl) (fun _ _ _ h => h) (Or.inl ⟨by kernel_rfl, ?_⟩) (by assumption) ?_
          rotate_left
          · (intro w hSw; (try dsimp only at hSw); go_simp; try with_reducible rfl)
          try simp only [Act.put, List.setIfInBounds_toArray, List.set_cons_zero, List.set_cons_succ]
          refine take_at 4 (some 42) (v := ?_) rfl (by kernel_rfl) (by kernel_rfl) (by kernel_rfl) (by kernel_rfl) (fun _ _ _ h => h) (Or.inl ⟨by kernel_rfl, ?_⟩) (by assumption) ?_
          rotate_left
          · (intro w hSw; (try dsimp only at hSw); go_simp; try with_reducible rfl)
          try simp only [Act.put, List.setIfInBounds_toArray, List.set_cons_zero, List.set_cons_succ]
          refine take_at 6 (some 44) (v := ?_) rfl (by kernel_rfl) (by kernel_rfl) (by kernel_rfl) (by kernel_rfl) (fun _ _ _ h => h) (Or.inl ⟨by kernel_rfl, ?_⟩) (by assumption) ?_
          rotate_left
          · (intro w hSw; (try dsimp only at hSw); go_simp; try with_reducible rfl)
          try simp only [Act.put, List.setIfInBounds_toArray, List.set_cons_zero, List.set_cons_succ]
          refine take_at 7 (some 45) (v := ?_) rfl (by kernel_rfl) (by kernel_rfl) (by kernel_rfl) (by kernel_rfl) (fun _ _ _ h => h) (Or.inl ⟨by kernel_rfl, ?_⟩) (by assumption) ?_
          rotate_left
          · (intro w hSw; (try dsimp only at hSw); go_simp; try with_reducible rfl)
          try simp only [Act.put, List.setIfInBounds_toArray, List.set_cons_zero, List.set_cons_succ]
          refine take_at 8 (some 46) (v := ?_) rfl (by kernel_rfl) (by kernel_rfl) (by kernel_rfl) (by kernel_rfl) (fun _ _ _ h => h) (Or.inl ⟨by kernel_rfl, ?_⟩) (by assumption) ?_
          rotate_left
          · (intro w hSw; (try dsimp only at hSw); go_simp; try with_reducible rfl)
          try simp only [Act.put, List.setIfInBounds_toArray, List.set_cons_zero, List.set_cons_succ]
          refine take_at 9 (some 47) (v := ?_) rfl (by kernel_rfl) (by kernel_rfl) (by kernel_rfl) (by kernel_rfl) (fun _ _ _ h => h) (Or.inl ⟨by kernel_rfl, ?_⟩) (by assumption) ?_
          rotate_left
          · (intro w hSw; (try dsimp only at hSw); go_simp; try with_reducible rfl)
          try simp only [Act.put, List.setIfInBounds_toArray, List.set_cons_zero, List.set_cons_succ]
          refine take_at 10 (some 48) (v := ?_) rfl (by kernel_rfl) (by kernel_rfl) (by kernel_rfl) (by kernel_rfl) (fun _ _ _ h => h) (Or.inl ⟨by kernel_rfl, ?_⟩) (by assumption) ?_
          rotate_left
          · (intro w hSw; (try dsimp only at hSw); go_simp; try with_reducible rfl)
          try simp only [Act.put, List.setIfInBounds_toArray, List.set_cons_zero, List.set_cons_succ]
          refine wpAnyH_ready (rs := [5]) (by kernel_rfl) (by simp) ?_
          refine AllReadyH.cons rfl (fun K hK => ?_) AllReadyH.nil
          go_simp
          refine (Hv1.out _).mono ?_; rintro e w1 ⟨rfl, hb1⟩; have HB := HB.trans ((by first | exact hb1 | exact below_undrew hb1 : Below _ _ _).mono HB.size)
          first | (refine hK.out _ _ (HT.out _ HB) (fun hHeld => ?_)) | (go_wp2_with fail; refine hK.out _ _ (HT.out _ HB) (fun hHeld => ?_))
          clear hK K
          try simp only [Act.put, List.setIfInBounds_toArray, List.set_cons_zero, List.set_cons_succ]
          refine wpAnyH_ready (rs := [11]) (by kernel_rfl) (by simp) ?_
          refine AllReadyH.cons rfl (fun K hK => ?_) AllReadyH.nil
          go_simp
          refine (Hv2.out _).mono ?_; rintro e w1 ⟨rfl, hb1⟩; have HB := HB.trans ((by first | exact hb1 | exact below_undrew hb1 : Below _ _ _).mono HB.size)
          first | (refine hK.out _ _ (HT.out _ HB) (fun hHeld => ?_)) | (go_wp2_with fail; refine hK.out _ _ (HT.out _ HB) (fun hHeld => ?_))
          clear hK K
          try simp only [Act.put, List.setIfInBounds_toArray, List.set_cons_zero, List.set_cons_succ]
          refine take_at 12 (some 50) (v := ?_) rfl (by kernel_rfl) (by kernel_rfl) (by kernel_rfl) (by kernel_rfl) (fun _ _ _ h => h) (Or.inl ⟨by kernel_rfl, ?_⟩) (by assumption) ?_
          rotate_left
          · (intro w hSw; (try dsimp only at hSw); go_simp; try with_reducible rfl)
          try simp only [Act.put, List.setIfInBounds_toArray, List.set_cons_zero, List.set_cons_succ]
          refine take_at 13 (some 51) (v := ?_) rfl (by kernel_rfl) (by kernel_rfl) (by kernel_rfl) (by kernel_rfl) (fun _ _ _ h => h) (Or.inl ⟨by kernel_rfl, ?_⟩) (by assumption) ?_
          rotate_left
          · (intro w hSw; (try dsimp only at hSw); go_simp; try with_reducible rfl)
          try simp only [Act.put, List.setIfInBounds_toArray, List.set_cons_zero, List.set_cons_succ]
          refine take_at 14 (some 52) (v := ?_) rfl (by kernel_rfl) (by kernel_rfl) (by kernel_rfl) (by kernel_rfl) (fun _ _ _ h => h) (Or.inl ⟨by kernel_rfl, ?_⟩) (by assumption) ?_
          rotate_left
          · (intro w hSw; (try dsimp only at hSw); go_simp; try with_reducible rfl)
          try simp only [Act.put, List.setIfInBounds_toArray, List.set_cons_zero, List.set_cons_succ]
          refine take_at 15 (some 53) (v := ?_) rfl (by kernel_rfl) (by kernel_rfl) (by kernel_rfl) (by kernel_rfl) (fun _ _ _ h => h) (Or.inl ⟨by kernel_rfl, ?_⟩) (by assumption) ?_
          rotate_left
          · (intro w hSw; (try dsimp only at hSw); go_simp; try with_reducible rfl)
          try simp only [Act.put, List.setIfInBounds_toArray, List.set_cons_zero, List.set_cons_succ]
          refine take_at 16 (some 54) (v := ?_) rfl (by kernel_rfl) (by kernel_rfl) (by kernel_rfl) (by kernel_rfl) (fun _ _ _ h => h) (Or.inl ⟨by kernel_rfl, ?_⟩) (by assumption) ?_
          rotate_left
          · (intro w hSw; (try dsimp only at hSw); go_simp; try with_reducible rfl)
          try simp only [Act.put, List.setIfInBounds_toArray, List.set_cons_zero, List.set_cons_succ]
          refine take_at 17 (some 55) (v := ?_) rfl (by kernel_rfl) (by kernel_rfl) (by kernel_rfl) (by kernel_rfl) (fun _ _ _ h => h) (Or.inl ⟨by kernel_rfl, ?_⟩) (by assumption) ?_
          rotate_left
          · (intro w hSw; (try dsimp only at hSw); go_simp; try with_reducible rfl)
          try simp only [Act.put, List.setIfInBounds_toArray, List.set_cons_zero, List.set_cons_succ]
          refine take_at 18 (some 56) (v := ?_) rfl (by kernel_rfl) (by kernel_rfl) (by kernel_rfl) (by kernel_rfl) (fun _ _ _ h => h) (Or.inl ⟨by kernel_rfl, ?_⟩) (by assumption) ?_
          rotate_left
          · (intro w hSw; (try dsimp only at hSw); go_simp; try with_reducible rfl)
          try simp only [Act.put, List.setIfInBounds_toArray, List.set_cons_zero, List.set_cons_succ]
          refine take_at 19 (some 57) (v := undef) rfl (by kernel_rfl) (by kernel_rfl) (by kernel_rfl) (by kernel_rfl) (fun _ _ _ h => h) (Or.inr ⟨by kernel_rfl, rfl⟩) (by assumption) ?_
          try simp only [Act.put, List.setIfInBounds_toArray, List.set_cons_zero, List.set_cons_succ]
          refine take_at 20 (some 58) (v := undef) rfl (by kernel_rfl) (by kernel_rfl) (by kernel_rfl) (by kernel_rfl) (fun _ _ _ h => h) (Or.inr ⟨by kernel_rfl, rfl⟩) (by assumption) ?_
          try simp only [Act.put, List.setIfInBounds_toArray, List.set_cons_zero, List.set_cons_succ]
          refine take_at 21 (some 59) (v := undef) rfl (by kernel_rfl) (by kernel_rfl) (by kernel_rfl) (by kernel_rfl) (fun _ _ _ h => h) (Or.inr ⟨by kernel_rfl, rfl⟩) (by assumption) ?_
          try simp only [Act.put, List.setIfInBounds_toArray, List.set_cons_zero, List.set_cons_succ]
          refine take_at 22 (some 60) (v := undef) rfl (by kernel_rfl) (by kernel_rfl) (by kernel_rfl) (by kernel_rfl) (fun _ _ _ h => h) (Or.inr ⟨by kernel_rfl, rfl⟩) (by assumption) ?_
          try simp only [Act.put, List.setIfInBounds_toArray, List.set_cons_zero, List.set_cons_succ]
          refine take_at 23 (some 61) (v := undef) rfl (by kernel_rfl) (by kernel_rfl) (by kernel_rfl) (by kernel_rfl) (fun _ _ _ h => h) (Or.inr ⟨by kernel_rfl, rfl⟩) (by assumption) ?_
          try simp only [Act.put, List.setIfInBounds_toArray, List.set_cons_zero, List.set_cons_succ]
          refine take_at 24 (some 62) (v := undef) rfl (by kernel_rfl) (by kernel_rfl) (by kernel_rfl) (by kernel_rfl) (fun _ _ _ h => h) (Or.inr ⟨by kernel_rfl, rfl⟩) (by assumption) ?_
          try simp only [Act.put, List.setIfInBounds_toArray, List.set_cons_zero, List.set_cons_succ]
          refine take_at 25 (some 63) (v := undef) rfl (by kernel_rfl) (by kernel_rfl) (by kernel_rfl) (by kernel_rfl) (fun _ _ _ h => h) (Or.inr ⟨by kernel_rfl, rfl⟩) (by assumption) ?_
          try simp only [Act.put, List.setIfInBounds_toArray, List.set_cons_zero, List.set_cons_succ]
          refine take_at 26 (some 64) (v := undef) rfl (by kernel_rfl) (by kernel_rfl) (by kernel_rfl) (by kernel_rfl) (fun _ _ _ h => h) (Or.inr ⟨by kernel_rfl, rfl⟩) (by assumption) ?_
          try simp only [Act.put, List.setIfInBounds_toArray, List.set_cons_zero, List.set_cons_succ]
          refine take_at 27 (some 65) (v := undef) rfl (by kernel_rfl) (by kernel_rfl) (by kernel_rfl) (by kernel_rfl) (fun _ _ _ h => h) (Or.inr ⟨by kernel_rfl, rfl⟩) (by assumption) ?_
          try simp only [Act.put, List.setIfInBounds_toArray, List.set_cons_zero, List.set_cons_succ]
          refine take_at 28 (some 66) (v := undef) rfl (by kernel_rfl) (by kernel_rfl) (by kernel_rfl) (by kernel_rfl) (fun _ _ _ h => h) (Or.inr ⟨by kernel_rfl, rfl⟩) (by assumption) ?_
          try simp only [Act.put, List.setIfInBounds_toArray, List.set_cons_zero, List.set_cons_succ]
          refine take_at 29 (some 67) (v := undef) rfl (by kernel_rfl) (by kernel_rfl) (by kernel_rfl) (by kernel_rfl) (fun _ _ _ h => h) (Or.inr ⟨by kernel_rfl, rfl⟩) (by assumption) ?_
          try simp only [Act.put, List.setIfInBounds_toArray, List.set_cons_zero, List.set_cons_succ]
          refine take_at 30 (some 68) (v := undef) rfl (by kernel_rfl) (by kernel_rfl) (by kernel_rfl) (by kernel_rfl) (fun _ _ _ h => h) (Or.inr ⟨by kernel_rfl, rfl⟩) (by assumption) ?_
          try simp only [Act.put, List.setIfInBounds_toArray, List.set_cons_zero, List.set_cons_succ]
          refine take_at 31 (some 69) (v := undef) rfl (by kernel_rfl) (by kernel_rfl) (by kernel_rfl) (by kernel_rfl) (fun _ _ _ h => h) (Or.inr ⟨by kernel_rfl, rfl⟩) (by assumption) ?_
          try simp only [Act.put, List.setIfInBounds_toArray, List.set_cons_zero, List.set_cons_succ]
          refine take_at 32 (some 70) (v := undef) rfl (by kernel_rfl) (by kernel_rfl) (by kernel_rfl) (by kernel_rfl) (fun _ _ _ h => h) (Or.inr ⟨by kernel_rfl, rfl⟩) (by assumption) ?_
          try simp only [Act.put, List.setIfInBounds_toArray, List.set_cons_zero, List.set_cons_succ]
          refine take_at 33 (some 71) (v := undef) rfl (by kernel_rfl) (by kernel_rfl) (by kernel_rfl) (by kernel_rfl) (fun _ _ _ h => h) (Or.inr ⟨by kernel_rfl, rfl⟩) (by assumption) ?_
          try simp only [Act.put, List.setIfInBounds_toArray, List.set_cons_zero, List.set_cons_succ]
          refine take_at 34 (some 72) (v := undef) rfl (by kernel_rfl) (by kernel_rfl) (by kernel_rfl) (by kernel_rfl) (fun _ _ _ h => h) (Or.inr ⟨by kernel_rfl, rfl⟩) (by assumption) ?_
          try simp only [Act.put, List.setIfInBounds_toArray, List.set_cons_zero, List.set_cons_succ]
          refine take_at 35 (some 73) (v := undef) rfl (by kernel_rfl) (by kernel_rfl) (by kernel_rfl) (by kernel_rfl) (fun _ _ _ h => h) (Or.inr ⟨by kernel_rfl, rfl⟩) (by assumption) ?_
          try simp only [Act.put, List.setIfInBounds_toArray, List.set_cons_zero, List.set_cons_succ]
          refine take_at 36 (some 74) (v := undef) rfl (by kernel_rfl) (by kernel_rfl) (by kernel_rfl) (by kernel_rfl) (fun _ _ _ h => h) (Or.inr ⟨by kernel_rfl, rfl⟩) (by assumption) ?_
          try simp only [Act.put, List.setIfInBounds_toArray, List.set_cons_zero, List.set_cons_succ]
          refine take_at 37 (some 75) (v := undef) rfl (by kernel_rfl) (by kernel_rfl) (by kernel_rfl) (by kernel_rfl) (fun _ _ _ h => h) (Or.inr ⟨by kernel_rfl, rfl⟩) (by assumption) ?_
          try simp only [Act.put, List.setIfInBounds_toArray, List.set_cons_zero, List.set_cons_succ]
          refine take_at 38 (some 76) (v := undef) rfl (by kernel_rfl) (by kernel_rfl) (by kernel_rfl) (by kernel_rfl) (fun _ _ _ h => h) (Or.inr ⟨by kernel_rfl, rfl⟩) (by assumption) ?_
          try simp only [Act.put, List.setIfInBounds_toArray, List.set_cons_zero, List.set_cons_succ]
          refine take_at 39 (some 77) (v := undef) rfl (by kernel_rfl) (by kernel_rfl) (by kernel_rfl) (by kernel_rfl) (fun _ _ _ h => h) (Or.inr ⟨by kernel_rfl, rfl⟩) (by assumption) ?_
          try simp only [Act.put, List.setIfInBounds_toArray, List.set_cons_zero, List.set_cons_succ]
          refine take_at 40 (some 78) (v := ?_) rfl (by kernel_rfl) (by kernel_rfl) (by kernel_rfl) (by kernel_rfl) (fun _ _ _ h => h) (Or.inl ⟨by kernel_rfl, ?_⟩) (by assumption) ?_
          rotate_left
          · (intro w hSw; (try dsimp only at hSw); go_simp; try with_reducible rfl)
          try simp only [Act.put, List.setIfInBounds_toArray, List.set_cons_zero, List.set_cons_succ]
          refine take_at 41 (some 79) (v := ?_) rfl (by kernel_rfl) (by kernel_rfl) (by kernel_rfl) (by kernel_rfl) (fun _ _ _ h => h) (Or.inl ⟨by kernel_rfl, ?_⟩) (by assumption) ?_
          rotate_left
          · (intro w hSw; (try dsimp only at hSw); go_simp; try with_reducible rfl)
          try simp only [Act.put, List.setIfInBounds_toArray, List.set_cons_zero, List.set_cons_succ]
          refine wpAnyH_done (by kernel_rfl) ?_ _
          have HB' := Lib.hid HB
          clear HB hS
          go_wp2_with fail
          go_roundw
          case rel => exact ⟨j + 1, by omega, by go_num, HB'.out⟩
          case measure => simp [intOf] <;> omega
        case true =>
          go_wp2_with fail
          refine wp_region_held_drew (S := (fun wx => (wx.cell? ⟨w.heap.size, 4, none⟩ = some (.slice (some ad) n c) ∧ wx.cell? ⟨V0.heap.size, 4, none⟩ = some (.slice D m d)) ∧ (wx.cell? (ad.add (j * 4)) = some (.int .i64 a0) ∧ wx.cell? ⟨(ad.add (j * 4)).block, (ad.add (j * 4)).off + 1, none⟩ = some (.string a1) ∧ wx.cell? ⟨(ad.add (j * 4)).block, (ad.add (j * 4)).off + 2, none⟩ = some (.string a2) ∧ wx.cell? ⟨(ad.add (j * 4)).block, (ad.add (j * 4)).off + 3, none⟩ = some (.float .f64 a3)))) (by kernel_rfl) (HT.out _ (below_drewN HB 1)) (fun hHeld => ?_)
          refine take_at 0 (some 38) (v := ?_) rfl (by kernel_rfl) (by kernel_rfl) (by kernel_rfl) (by kernel_rfl) (fun _ _ _ h => h) (Or.inl ⟨by kernel_rfl, ?_⟩) (by assumption) ?_
          rotate_left
          · (intro w hSw; (try dsimp only at hSw); go_simp; try with_reducible rfl)
          try simp only [Act.put, List.setIfInBounds_toArray, List.set_cons_zero, List.set_cons_succ]
          refine take_at 1 (some 39) (v := ?_) rfl (by kernel_rfl) (by kernel_rfl) (by kernel_rfl) (by kernel_rfl) (fun _ _ _ h => h) (Or.inl ⟨by kernel_rfl, ?_⟩) (by assumption) ?_
          rotate_left
          · (intro w hSw; (try dsimp only at hSw); go_simp; try with_reducible rfl)
          try simp only [Act.put, List.setIfInBounds_toArray, List.set_cons_zero, List.set_cons_succ]
          refine take_at 2 (some 40) (v := ?_) rfl (by kernel_rfl) (by kernel_rfl) (by kernel_rfl) (by kernel_rfl) (fun _ _ _ h => h) (Or.inl ⟨by kernel_rfl, ?_⟩) (by assumption) ?_
          rotate_left
          · (intro w hSw; (try dsimp only at hSw); go_simp; try with_reducible rfl)
          try simp only [Act.put, List.setIfInBounds_toArray, List.set_cons_zero, List.set_cons_succ]
          refine take_at 3 (some 41) (v := ?_) rfl (by kernel_rfl) (by kernel_rfl) (by kernel_rfl) (by kernel_rfl) (fun _ _ _ h => h) (Or.inl ⟨by kernel_rfl, ?_⟩) (by assumption) ?_
          rotate_left
          · (intro w hSw; (try dsimp only at hSw); go_simp; try with_reducible rfl)
          try simp only [Act.put, List.setIfInBounds_toArray, List.set_cons_zero, List.set_cons_succ]
          refine take_at 4 (some 42) (v := ?_) rfl (by kernel_rfl) (by kernel_rfl) (by kernel_rfl) (by kernel_rfl) (fun _ _ _ h => h) (Or.inl ⟨by kernel_rfl, ?_⟩) (by assumption) ?_
          rotate_left
          · (intro w hSw; (try dsimp only at hSw); go_simp; try with_reducible rfl)
          try simp only [Act.put, List.setIfInBounds_toArray, List.set_cons_zero, List.set_cons_succ]
          refine take_at 6 (some 44) (v := ?_) rfl (by kernel_rfl) (by kernel_rfl) (by kernel_rfl) (by kernel_rfl) (fun _ _ _ h => h) (Or.inl ⟨by kernel_rfl, ?_⟩) (by assumption) ?_
          rotate_left
          · (intro w hSw; (try dsimp only at hSw); go_simp; try with_reducible rfl)
          try simp only [Act.put, List.setIfInBounds_toArray, List.set_cons_zero, List.set_cons_succ]
          refine take_at 7 (some 45) (v := ?_) rfl (by kernel_rfl) (by kernel_rfl) (by kernel_rfl) (by kernel_rfl) (fun _ _ _ h => h) (Or.inl ⟨by kernel_rfl, ?_⟩) (by assumption) ?_
          rotate_left
          · (intro w hSw; (try dsimp only at hSw); go_simp; try with_reducible rfl)
          try simp only [Act.put, List.setIfInBounds_toArray, List.set_cons_zero, List.set_cons_succ]
          refine take_at 8 (some 46) (v := ?_) rfl (by kernel_rfl) (by kernel_rfl) (by kernel_rfl) (by kernel_rfl) (fun _ _ _ h => h) (Or.inl ⟨by kernel_rfl, ?_⟩) (by assumption) ?_
          rotate_left
          · (intro w hSw; (try dsimp only at hSw); go_simp; try with_reducible rfl)
          try simp only [Act.put, List.setIfInBounds_toArray, List.set_cons_zero, List.set_cons_succ]
          refine take_at 9 (some 47) (v := ?_) rfl (by kernel_rfl) (by kernel_rfl) (by kernel_rfl) (by kernel_rfl) (fun _ _ _ h => h) (Or.inl ⟨by kernel_rfl, ?_⟩) (by assumption) ?_
          rotate_left
          · (intro w hSw; (try dsimp only at hSw); go_simp; try with_reducible rfl)
          try simp only [Act.put, List.setIfInBounds_toArray, List.set_cons_zero, List.set_cons_succ]
          refine take_at 10 (some 48) (v := ?_) rfl (by kernel_rfl) (by kernel_rfl) (by kernel_rfl) (by kernel_rfl) (fun _ _ _ h => h) (Or.inl ⟨by kernel_rfl, ?_⟩) (by assumption) ?_
          rotate_left
          · (intro w hSw; (try dsimp only at hSw); go_simp; try with_reducible rfl)
          try simp only [Act.put, List.setIfInBounds_toArray, List.set_cons_zero, List.set_cons_succ]
          refine wpAnyH_ready (rs := [5]) (by kernel_rfl) (by simp) ?_
          refine AllReadyH.cons rfl (fun K hK => ?_) AllReadyH.nil
          go_simp
          refine (Hv1.out _).mono ?_; rintro e w1 ⟨rfl, hb1⟩; have HB := HB.trans ((by first | exact hb1 | exact below_undrew hb1 : Below _ _ _).mono HB.size)
          first | (refine hK.out _ _ (HT.out _ HB) (fun hHeld => ?_)) | (go_wp2_with fail; refine hK.out _ _ (HT.out _ HB) (fun hHeld => ?_))
          clear hK K
          try simp only [Act.put, List.setIfInBounds_toArray, List.set_cons_zero, List.set_cons_succ]
          refine wpAnyH_ready (rs := [11]) (by kernel_rfl) (by simp) ?_
          refine AllReadyH.cons rfl (fun K hK => ?_) AllReadyH.nil
          go_simp
          refine (Hv2.out _).mono ?_; rintro e w1 ⟨rfl, hb1⟩; have HB := HB.trans ((by first | exact hb1 | exact below_undrew hb1 : Below _ _ _).mono HB.size)
          first | (refine hK.out _ _ (HT.out _ HB) (fun hHeld => ?_)) | (go_wp2_with fail; refine hK.out _ _ (HT.out _ HB) (fun hHeld => ?_))
          clear hK K
          try simp only [Act.put, List.setIfInBounds_toArray, List.set_cons_zero, List.set_cons_succ]
          refine take_at 12 (some 50) (v := ?_) rfl (by kernel_rfl) (by kernel_rfl) (by kernel_rfl) (by kernel_rfl) (fun _ _ _ h => h) (Or.inl ⟨by kernel_rfl, ?_⟩) (by assumption) ?_
          rotate_left
          · (intro w hSw; (try dsimp only at hSw); go_simp; try with_reducible rfl)
          try simp only [Act.put, List.setIfInBounds_toArray, List.set_cons_zero, List.set_cons_succ]
          refine take_at 13 (some 51) (v := ?_) rfl (by kernel_rfl) (by kernel_rfl) (by kernel_rfl) (by kernel_rfl) (fun _ _ _ h => h) (Or.inl ⟨by kernel_rfl, ?_⟩) (by assumption) ?_
          rotate_left
          · (intro w hSw; (try dsimp only at hSw); go_simp; try with_reducible rfl)
          try simp only [Act.put, List.setIfInBounds_toArray, List.set_cons_zero, List.set_cons_succ]
          refine take_at 14 (some 52) (v := ?_) rfl (by kernel_rfl) (by kernel_rfl) (by kernel_rfl) (by kernel_rfl) (fun _ _ _ h => h) (Or.inl ⟨by kernel_rfl, ?_⟩) (by assumption) ?_
          rotate_left
          · (intro w hSw; (try dsimp only at hSw); go_simp; try with_reducible rfl)
          try simp only [Act.put, List.setIfInBounds_toArray, List.set_cons_zero, List.set_cons_succ]
          refine take_at 15 (some 53) (v := ?_) rfl (by kernel_rfl) (by kernel_rfl) (by kernel_rfl) (by kernel_rfl) (fun _ _ _ h => h) (Or.inl ⟨by kernel_rfl, ?_⟩) (by assumption) ?_
          rotate_left
          · (intro w hSw; (try dsimp only at hSw); go_simp; try with_reducible rfl)
          try simp only [Act.put, List.setIfInBounds_toArray, List.set_cons_zero, List.set_cons_succ]
          refine take_at 16 (some 54) (v := ?_) rfl (by kernel_rfl) (by kernel_rfl) (by kernel_rfl) (by kernel_rfl) (fun _ _ _ h => h) (Or.inl ⟨by kernel_rfl, ?_⟩) (by assumption) ?_
          rotate_left
          · (intro w hSw; (try dsimp only at hSw); go_simp; try with_reducible rfl)
          try simp only [Act.put, List.setIfInBounds_toArray, List.set_cons_zero, List.set_cons_succ]
          refine take_at 17 (some 55) (v := ?_) rfl (by kernel_rfl) (by kernel_rfl) (by kernel_rfl) (by kernel_rfl) (fun _ _ _ h => h) (Or.inl ⟨by kernel_rfl, ?_⟩) (by assumption) ?_
          rotate_left
          · (intro w hSw; (try dsimp only at hSw); go_simp; try with_reducible rfl)
          try simp only [Act.put, List.setIfInBounds_toArray, List.set_cons_zero, List.set_cons_succ]
          refine take_at 18 (some 56) (v := ?_) rfl (by kernel_rfl) (by kernel_rfl) (by kernel_rfl) (by kernel_rfl) (fun _ _ _ h => h) (Or.inl ⟨by kernel_rfl, ?_⟩) (by assumption) ?_
          rotate_left
          · (intro w hSw; (try dsimp only at hSw); go_simp; try with_reducible rfl)
          try simp only [Act.put, List.setIfInBounds_toArray, List.set_cons_zero, List.set_cons_succ]
          refine take_at 19 (some 57) (v := undef) rfl (by kernel_rfl) (by kernel_rfl) (by kernel_rfl) (by kernel_rfl) (fun _ _ _ h => h) (Or.inr ⟨by kernel_rfl, rfl⟩) (by assumption) ?_
          try simp only [Act.put, List.setIfInBounds_toArray, List.set_cons_zero, List.set_cons_succ]
          refine take_at 20 (some 58) (v := undef) rfl (by kernel_rfl) (by kernel_rfl) (by kernel_rfl) (by kernel_rfl) (fun _ _ _ h => h) (Or.inr ⟨by kernel_rfl, rfl⟩) (by assumption) ?_
          try simp only [Act.put, List.setIfInBounds_toArray, List.set_cons_zero, List.set_cons_succ]
          refine take_at 21 (some 59) (v := undef) rfl (by kernel_rfl) (by kernel_rfl) (by kernel_rfl) (by kernel_rfl) (fun _ _ _ h => h) (Or.inr ⟨by kernel_rfl, rfl⟩) (by assumption) ?_
          try simp only [Act.put, List.setIfInBounds_toArray, List.set_cons_zero, List.set_cons_succ]
          refine take_at 22 (some 60) (v := undef) rfl (by kernel_rfl) (by kernel_rfl) (by kernel_rfl) (by kernel_rfl) (fun _ _ _ h => h) (Or.inr ⟨by kernel_rfl, rfl⟩) (by assumption) ?_
          try simp only [Act.put, List.setIfInBounds_toArray, List.set_cons_zero, List.set_cons_succ]
          refine take_at 23 (some 61) (v := undef) rfl (by kernel_rfl) (by kernel_rfl) (by kernel_rfl) (by kernel_rfl) (fun _ _ _ h => h) (Or.inr ⟨by kernel_rfl, rfl⟩) (by assumption) ?_
          try simp only [Act.put, List.setIfInBounds_toArray, List.set_cons_zero, List.set_cons_succ]
          refine take_at 24 (some 62) (v := undef) rfl (by kernel_rfl) (by kernel_rfl) (by kernel_rfl) (by kernel_rfl) (fun _ _ _ h => h) (Or.inr ⟨by kernel_rfl, rfl⟩) (by assumption) ?_
          try simp only [Act.put, List.setIfInBounds_toArray, List.set_cons_zero, List.set_cons_succ]
          refine take_at 25 (some 63) (v := undef) rfl (by kernel_rfl) (by kernel_rfl) (by kernel_rfl) (by kernel_rfl) (fun _ _ _ h => h) (Or.inr ⟨by kernel_rfl, rfl⟩) (by assumption) ?_
          try simp only [Act.put, List.setIfInBounds_toArray, List.set_cons_zero, List.set_cons_succ]
          refine take_at 26 (some 64) (v := undef) rfl (by kernel_rfl) (by kernel_rfl) (by kernel_rfl) (by kernel_rfl) (fun _ _ _ h => h) (Or.inr ⟨by kernel_rfl, rfl⟩) (by assumption) ?_
          try simp only [Act.put, List.setIfInBounds_toArray, List.set_cons_zero, List.set_cons_succ]
          refine take_at 27 (some 65) (v := undef) rfl (by kernel_rfl) (by kernel_rfl) (by kernel_rfl) (by kernel_rfl) (fun _ _ _ h => h) (Or.inr ⟨by kernel_rfl, rfl⟩) (by assumption) ?_
          try simp only [Act.put, List.setIfInBounds_toArray, List.set_cons_zero, List.set_cons_succ]
          refine take_at 28 (some 66) (v := undef) rfl (by kernel_rfl) (by kernel_rfl) (by kernel_rfl) (by kernel_rfl) (fun _ _ _ h => h) (Or.inr ⟨by kernel_rfl, rfl⟩) (by assumption) ?_
          try simp only [Act.put, List.setIfInBounds_toArray, List.set_cons_zero, List.set_cons_succ]
          refine take_at 29 (some 67) (v := undef) rfl (by kernel_rfl) (by kernel_rfl) (by kernel_rfl) (by kernel_rfl) (fun _ _ _ h => h) (Or.inr ⟨by kernel_rfl, rfl⟩) (by assumption) ?_
          try simp only [Act.put, List.setIfInBounds_toArray, List.set_cons_zero, List.set_cons_succ]
          refine take_at 30 (some 68) (v := undef) rfl (by kernel_rfl) (by kernel_rfl) (by kernel_rfl) (by kernel_rfl) (fun _ _ _ h => h) (Or.inr ⟨by kernel_rfl, rfl⟩) (by assumption) ?_
          try simp only [Act.put, List.setIfInBounds_toArray, List.set_cons_zero, List.set_cons_succ]
          refine take_at 31 (some 69) (v := undef) rfl (by kernel_rfl) (by kernel_rfl) (by kernel_rfl) (by kernel_rfl) (fun _ _ _ h => h) (Or.inr ⟨by kernel_rfl, rfl⟩) (by assumption) ?_
          try simp only [Act.put, List.setIfInBounds_toArray, List.set_cons_zero, List.set_cons_succ]
          refine take_at 32 (some 70) (v := undef) rfl (by kernel_rfl) (by kernel_rfl) (by kernel_rfl) (by kernel_rfl) (fun _ _ _ h => h) (Or.inr ⟨by kernel_rfl, rfl⟩) (by assumption) ?_
          try simp only [Act.put, List.setIfInBounds_toArray, List.set_cons_zero, List.set_cons_succ]
          refine take_at 33 (some 71) (v := undef) rfl (by kernel_rfl) (by kernel_rfl) (by kernel_rfl) (by kernel_rfl) (fun _ _ _ h => h) (Or.inr ⟨by kernel_rfl, rfl⟩) (by assumption) ?_
          try simp only [Act.put, List.setIfInBounds_toArray, List.set_cons_zero, List.set_cons_succ]
          refine take_at 34 (some 72) (v := undef) rfl (by kernel_rfl) (by kernel_rfl) (by kernel_rfl) (by kernel_rfl) (fun _ _ _ h => h) (Or.inr ⟨by kernel_rfl, rfl⟩) (by assumption) ?_
          try simp only [Act.put, List.setIfInBounds_toArray, List.set_cons_zero, List.set_cons_succ]
          refine take_at 35 (some 73) (v := undef) rfl (by kernel_rfl) (by kernel_rfl) (by kernel_rfl) (by kernel_rfl) (fun _ _ _ h => h) (Or.inr ⟨by kernel_rfl, rfl⟩) (by assumption) ?_
          try simp only [Act.put, List.setIfInBounds_toArray, List.set_cons_zero, List.set_cons_succ]
          refine take_at 36 (some 74) (v := undef) rfl (by kernel_rfl) (by kernel_rfl) (by kernel_rfl) (by kernel_rfl) (fun _ _ _ h => h) (Or.inr ⟨by kernel_rfl, rfl⟩) (by assumption) ?_
          try simp only [Act.put, List.setIfInBounds_toArray, List.set_cons_zero, List.set_cons_succ]
          refine take_at 37 (some 75) (v := undef) rfl (by kernel_rfl) (by kernel_rfl) (by kernel_rfl) (by kernel_rfl) (fun _ _ _ h => h) (Or.inr ⟨by kernel_rfl, rfl⟩) (by assumption) ?_
          try simp only [Act.put, List.setIfInBounds_toArray, List.set_cons_zero, List.set_cons_succ]
          refine take_at 38 (some 76) (v := undef) rfl (by kernel_rfl) (by kernel_rfl) (by kernel_rfl) (by kernel_rfl) (fun _ _ _ h => h) (Or.inr ⟨by kernel_rfl, rfl⟩) (by assumption) ?_
          try simp only [Act.put, List.setIfInBounds_toArray, List.set_cons_zero, List.set_cons_succ]
          refine take_at 39 (some 77) (v := undef) rfl (by kernel_rfl) (by kernel_rfl) (by kernel_rfl) (by kernel_rfl) (fun _ _ _ h => h) (Or.inr ⟨by kernel_rfl, rfl⟩) (by assumption) ?_
          try simp only [Act.put, List.setIfInBounds_toArray, List.set_cons_zero, List.set_cons_succ]
          refine take_at 40 (some 78) (v := ?_) rfl (by kernel_rfl) (by kernel_rfl) (by kernel_rfl) (by kernel_rfl) (fun _ _ _ h => h) (Or.inl ⟨by kernel_rfl, ?_⟩) (by assumption) ?_
          rotate_left
          · (intro w hSw; (try dsimp only at hSw); go_simp; try with_reducible rfl)
          try simp only [Act.put, List.setIfInBounds_toArray, List.set_cons_zero, List.set_cons_succ]
          refine take_at 41 (some 79) (v := ?_) rfl (by kernel_rfl) (by kernel_rfl) (by kernel_rfl) (by kernel_rfl) (fun _ _ _ h => h) (Or.inl ⟨by kernel_rfl, ?_⟩) (by assumption) ?_
          rotate_left
          · (intro w hSw; (try dsimp only at hSw); go_simp; try with_reducible rfl)
          try simp only [Act.put, List.setIfInBounds_toArray, List.set_cons_zero, List.set_cons_succ]
          refine wpAnyH_done (by kernel_rfl) ?_ _
          have HB' := Lib.hid HB
          clear HB hS
          go_wp2_with fail
          go_roundw
          case rel => exact ⟨j + 1, by omega, by go_num, HB'.out⟩
          case measure => simp [intOf] <;> omega
    · have hjn : n = j := by omega
      subst hjn
      have dj : decide (n < n) = false := by simp
      clear hlt hj hj0 hcA hcD

      obtain ⟨W8, hW8⟩ : ∃ W, wr.alloc (.cells #[.int .i64 k, .int .i64 t, .string s, .int .i64 x, .slice A n c, .int .i64 m0, .int .i64 m1, .int .i64 m2] 26) = W := ⟨_, rfl⟩
      have hb8 : Below wr.heap.size wr W8 := by rw [← hW8]; exact (Below.refl _ _).alloc (Nat.le_refl _) _
      have hX8 : BlkIs W8 wr.heap.size 26 #[.int .i64 k, .int .i64 t, .string s, .int .i64 x, .slice A n c, .int .i64 m0, .int .i64 m1, .int .i64 m2] := by rw [← hW8]; exact BlkIs.new _ _ _
      have HX8 := Lib.hid hX8; have HB8 := Lib.hid (HB.trans (hb8.mono HB.size)); have HBr := Lib.hid HB
      have hxl : wr.heap.size < W8.heap.size := hX8.lt
      have hVr : V.heap.size ≤ wr.heap.size := HB.size
      have KA : Hid (∀ wx, Below W8.heap.size W8 wx → SlR wx w.heap.size 4 A n (evVs es)) := Lib.hid (fun wx h => Ha1.out.below ((HB8.out.trans (h.mono HB8.out.size)).mono HbV.out.size))
      have KC : Hid (∀ wx, Below W8.heap.size W8 wx → wx.cell? ⟨w.heap.size, 4, none⟩ = some (.slice A n c) ∧ wx.cell? ⟨wr.heap.size, 4, none⟩ = some (.slice A n c) ∧ wx.frozen? ⟨wr.heap.size, 4, none⟩ = false) := Lib.hid (fun wx h => ⟨(HS.out _ (HB8.out.trans (h.mono HB8.out.size))).1 4, (HX8.out.below h hxl).cell 4, (HX8.out.below h hxl).free 4⟩)
      have hla := Hla.out
      have hwV : w.heap.size ≤ V.heap.size := HbV.out.size
      clear hb8 hX8 HB
      have tok1 : True := trivial
      have hk0 := (KC.out _ (Below.refl _ _)).1
      go_upto_region 9 with fail
      (try rw [hW8])
      go_cut [8] (fun s8 wx => ∃ gn cn, s8 = .pointer (some ⟨wr.heap.size, 0, none⟩) ∧ BlkIs wx wr.heap.size 26 #[.int .i64 k, .int .i64 t, .string s, .int .i64 x, .slice (some ⟨gn, 0, none⟩) n cn, .int .i64 m0, .int .i64 m1, .int .i64 m2] ∧ SlR wx wx.heap.size 4 (some ⟨gn, 0, none⟩) n (evVs es) ∧ wx.cell? ⟨gn, n * 4, none⟩ = some (.int .i64 77) ∧ gn < wx.heap.size ∧ n + 1 ≤ cn ∧ Below V.heap.size V wx)
      case first => as_aux_lemma =>
        have hk0a := (KC.out _ ((Below.refl W8.heap.size W8).alloc (Nat.le_refl _) (.cells #[.int .i64 77, .string ⟨#[]⟩, .string ⟨#[]⟩, .float .f64 0] 33))).1
        go_region_law (first
          | (have _t := tok1; clear tok1 _t; refine step_append_sl (by rfl) (.const (.slice none 0 0)) (.tmp 82) _ (by rfl) W8.heap.size 33 i0 _ 4 48 Try.underlying22 hi0 hz0 hz1 hz2 rfl (by omega) (.slice none 0 0) 0 [] (by simp [Act.eval]) (World.ownsRow_nil _ _ _ _) w.heap.size A n c (evVs es) (by simp [Act.eval, Act.put]) (KA.out _ (by repeat (first | exact Below.refl _ _ | refine Below.drew ?_ | refine Below.alloc ?_ (by simp) _))) (evVs_one _) (by unfold maxLen; omega) (by omega) (by simp <;> omega) ?_; intro v1 wa hown1 hg1 hat1; have HA1 : Hid (Below W8.heap.size W8 wa) := Lib.hid ((show Below W8.heap.size W8 _ by repeat (first | exact Below.refl _ _ | refine Below.drew ?_ | refine Below.alloc ?_ (by simp) _)).grown hg1 (by simp <;> omega) (by simp [Value.ownBlock])); simp only [Nat.zero_add, List.nil_append] at hown1; have HO1 := Lib.hid hown1; have HN := Lib.hid (fun (g : Nat) (h : BlkIs _ g 33 #[.int .i64 77, .string ⟨#[]⟩, .string ⟨#[]⟩, .float .f64 0]) => h.grown hg1 (by simp [Value.ownBlock])); have hk1 := (KC.out _ HA1.out).1; have hk1a := (KC.out _ (HA1.out.alloc HA1.out.size (.cells #[.int .i64 77, .string ⟨#[]⟩, .string ⟨#[]⟩, .float .f64 0] 33))).1; clear hown1 hg1 hat1)
          | (refine step_append_sl (by rfl) (.tmp 83) (.tmp 85) _ (by rfl) W8.heap.size 33 i0 _ 4 48 Try.underlying22 hi0 hz0 hz1 hz2 rfl (by omega) v1 n (evVs es) (by simp [Act.eval, Act.put]) (HO1.out.alloc (.cells #[.int .i64 77, .string ⟨#[]⟩, .string ⟨#[]⟩, .float .f64 0] 33)) (wa.heap.size + 1) (some ⟨wa.heap.size, 0, none⟩) 1 1 (evVs [e77]) (by simp [Act.eval, Act.put]) (SlR.new wa _ rfl _ #[.int .i64 77, .string ⟨#[]⟩, .string ⟨#[]⟩, .float .f64 0] rfl) (evVs_one _) (by unfold maxLen; omega) (by omega) (by have := HA1.out.size; first | omega | (simp; omega) | simp) ?_; intro v2 wb hown2 hg2 hat2; have HB9 : Hid (Below W8.heap.size W8 wb) := Lib.hid ((HA1.out.alloc HA1.out.size (.cells #[.int .i64 77, .string ⟨#[]⟩, .string ⟨#[]⟩, .float .f64 0] 33)).grown hg2 (by have := HA1.out.size; first | omega | (simp; omega) | simp) (fun q hq => (HO1.out.lt q hq).1)); obtain ⟨gn, cn, rfl, hcn, hgn⟩ := own77 hown2; have HO2 := Lib.hid hown2; have hk2 := KC.out _ HB9.out; obtain ⟨hk3, hk4, hk5⟩ := hk2; have hcn2 : (n : Int) ≤ (cn : Int) := (by omega); clear hown2 hg2 hat2 )
          | (refine step_append_sl (by rfl) (.tmp 83) (.tmp 85) _ (by rfl) W8.heap.size 33 i0 _ 4 48 Try.underlying22 hi0 hz0 hz1 hz2 rfl (by omega) v1 n (evVs es) (by simp [Act.eval, Act.put]) HO1.out (W8.heap.size + 1) (some ⟨W8.heap.size, 0, none⟩) 1 1 (evVs [e77]) (by simp [Act.eval, Act.put]) (SlR.blk (HN.out W8.heap.size (BlkIs.new W8 _ _)) rfl (Nat.lt_succ_self _)) (evVs_one _) (by unfold maxLen; omega) (by omega) (by have := HA1.out.size; first | omega | (simp; omega) | simp) ?_; intro v2 wb hown2 hg2 hat2; have HB9 : Hid (Below W8.heap.size W8 wb) := Lib.hid (HA1.out.grown hg2 (by have := HA1.out.size; first | omega | (simp; omega) | simp) (fun q hq => (HO1.out.lt q hq).1)); obtain ⟨gn, cn, rfl, hcn, hgn⟩ := own77 hown2; have HO2 := Lib.hid hown2; have hk2 := KC.out _ HB9.out; obtain ⟨hk3, hk4, hk5⟩ := hk2; have hcn2 : (n : Int) ≤ (cn : Int) := (by omega); clear hown2 hg2 hat2)
          | (refine step_append_sl (by rfl) (.tmp 83) (.tmp 85) _ (by rfl) W8.heap.size 33 i0 _ 4 48 Try.underlying22 hi0 hz0 hz1 hz2 rfl (by omega) v1 n (evVs es) (by simp [Act.eval, Act.put]) HO1.out (W8.heap.size + 1) (some ⟨W8.heap.size, 0, none⟩) 1 1 (evVs [e77]) (by simp [Act.eval, Act.put]) (SlR.blk (HN.out W8.heap.size (BlkIs.new W8.drew _ _)) rfl (Nat.lt_succ_self _)) (evVs_one _) (by unfold maxLen; omega) (by omega) (by have := HA1.out.size; first | omega | (simp; omega) | simp) ?_; intro v2 wb hown2 hg2 hat2; have HB9 : Hid (Below W8.heap.size W8 wb) := Lib.hid (HA1.out.grown hg2 (by have := HA1.out.size; first | omega | (simp; omega) | simp) (fun q hq => (HO1.out.lt q hq).1)); obtain ⟨gn, cn, rfl, hcn, hgn⟩ := own77 hown2; have HO2 := Lib.hid hown2; have hk2 := KC.out _ HB9.out; obtain ⟨hk3, hk4, hk5⟩ := hk2; have hcn2 : (n : Int) ≤ (cn : Int) := (by omega); clear hown2 hg2 hat2))
        all_goals
          have hO := own_far (a := ⟨wr.heap.size, 4, none⟩) HO2.out (by simp [Value.ownBlock]; omega) (.slice (some ⟨gn, 0, none⟩) n cn)
          obtain ⟨r1, r2, r3⟩ := row77 hla hO
          have hXc : BlkIs (wb.setCell ⟨wr.heap.size, 4, none⟩ (.slice (some ⟨gn, 0, none⟩) n cn)) wr.heap.size 26 #[.int .i64 k, .int .i64 t, .string s, .int .i64 x, .slice (some ⟨gn, 0, none⟩) n cn, .int .i64 m0, .int .i64 m1, .int .i64 m2] := (HX8.out.below HB9.out hxl).put 4 _
          have hBc : Below V.heap.size V (wb.setCell ⟨wr.heap.size, 4, none⟩ (.slice (some ⟨gn, 0, none⟩) n cn)) := (HB8.out.trans (HB9.out.mono HB8.out.size)).setCell (p := ⟨wr.heap.size, 4, none⟩) hVr _
          have R1 := Lib.hid r1; have R2 := Lib.hid r2; have R3 := Lib.hid r3; have HXc := Lib.hid hXc; have HBc := Lib.hid hBc
          clear hO r1 r2 r3 hXc hBc
          go_wp2_with fail
          go_meet
          exact ⟨gn, cn, rfl, HXc.out, R1.out, R2.out, R3.out, hcn, HBc.out⟩
      case rest => as_aux_lemma =>
        obtain ⟨gn, cn, rfl, hXc, r1, r2, r3, hcn, hBc⟩ := hcut
        have hVc := hBc.size
        have hwc : w.heap.size ≤ wc.heap.size := Nat.le_trans hwV hVc
        have xc := hXc.cell
        have r0 : n ≤ 1000000000 := by omega
        have m9 : m ≤ 1000000000 := by omega
        have ha2 := fun wx (h : Below wc.heap.size wc wx) => Ha1.out.below ((hBc.trans (h.mono hVc)).mono hwV)
        have hd2 := fun wx (h : Below wc.heap.size wc wx) => Hd1.out.below ((hBc.trans (h.mono hVc)).mono hwV)
        have hx2 := fun wx (h : Below wc.heap.size wc wx) => r1.below h
        have hT0 : ∀ wx, Below wc.heap.size wc wx → (∀ i, wx.cell? ⟨w.heap.size, i, none⟩ = (#[.int .i64 k, .int .i64 t, .string s, .int .i64 x, .slice A n c, .int .i64 m0, .int .i64 m1, .int .i64 m2] : Array Value)[i]?) ∧ (∀ i, wx.cell? ⟨V0.heap.size, i, none⟩ = (#[.int .i64 k', .int .i64 t', .string s', .int .i64 x', .slice D m d, .int .i64 p0, .int .i64 p1, .int .i64 p2] : Array Value)[i]?) ∧ (∀ i, wx.cell? ⟨wr.heap.size, i, none⟩ = (#[.int .i64 k, .int .i64 t, .string s, .int .i64 x, .slice (some ⟨gn, 0, none⟩) n cn, .int .i64 m0, .int .i64 m1, .int .i64 m2] : Array Value)[i]?) ∧ wx.cell? ⟨gn, n * 4, none⟩ = some (.int .i64 77) := fun wx h =>
          ⟨(HS.out _ (hBc.trans (h.mono hVc))).1, (HS.out _ (hBc.trans (h.mono hVc))).2, (hXc.below h hXc.lt).cell, (h.cell (p := ⟨gn, n * 4, none⟩) r3).trans r2⟩
        obtain ⟨pc, hpc⟩ : ∃ p, putC (⟨k, t, s, x, es, m0, m1, m2⟩ : Cmd) = p := ⟨_, rfl⟩
        obtain ⟨qc, hqc⟩ : ∃ p, checkC (⟨k, t, s, x, es, m0, m1, m2⟩ : Cmd) = p := ⟨_, rfl⟩
        obtain ⟨y, hy⟩ : ∃ y, getC b.data.toList = y := ⟨_, rfl⟩
        obtain ⟨sm, hsm⟩ : ∃ q, sameC (⟨k, t, s, x, es, m0, m1, m2⟩ : Cmd) (⟨k', t', s', x', fs, p0, p1, p2⟩ : Cmd) = q := ⟨_, rfl⟩
        obtain ⟨mt, hmt⟩ : ∃ q, metaB m0 m1 m2 = q := ⟨_, rfl⟩
        have hself : sameC (⟨k, t, s, x, es, m0, m1, m2⟩ : Cmd) (⟨k, t, s, x, es, m0, m1, m2⟩ : Cmd) = true := (sameC_iff _ _).2 rfl
        have hyself : sameC y.1 y.1 = true := (sameC_iff _ _).2 rfl
        have hyes : y.1.es.length ≤ 255 := by rw [← hy]; exact getC_few _
        have kP1 := fun wx (h : Below wc.heap.size wc wx) => put_any k t s x (some ⟨gn, 0, none⟩) n cn wc.heap.size es m0 m1 m2 wx (hx2 wx h) h.size r0 Hf.out.es Hf.out.s1
        have kP2 := fun wx (h : Below wc.heap.size wc wx) => refPut_any k t s x A n c w.heap.size es m0 m1 m2 wx (ha2 wx h) (Nat.le_trans hwc h.size) r0 Hf.out.es Hf.out.s1
        have kC1 := fun wx (h : Below wc.heap.size wc wx) => check_any k t s x (some ⟨gn, 0, none⟩) n cn wc.heap.size es m0 m1 m2 wx (hx2 wx h) h.size r0 Hf.out.es Hf.out.s1
        have kC2 := fun wx (h : Below wc.heap.size wc wx) => refCheck_any k t s x A n c w.heap.size es m0 m1 m2 wx (ha2 wx h) (Nat.le_trans hwc h.size) r0 Hf.out.es Hf.out.s1
        have kG1 := fun w => get_any b w (by omega)
        have kG2 := fun w => refGet_any b w (by omega)
        have kM1 := fun w => meta_any m0 m1 m2 w
        have kM2 := fun w => refMeta7_any m0 m1 m2 w
        have kS1 := fun wx (h : Below wc.heap.size wc wx) => same_any k t s x (some ⟨gn, 0, none⟩) n cn es m0 m1 m2 k' t' s' x' D m d fs p0 p1 p2 wc.heap.size wx (hx2 wx h) ((hd2 wx h).more hwc) h.size r0 m9
        have kS2 := fun wx (h : Below wc.heap.size wc wx) => refSame_any k t s x A n c es m0 m1 m2 k' t' s' x' D m d fs p0 p1 p2 w.heap.size wx (ha2 wx h) (hd2 wx h) (Nat.le_trans hwc h.size) r0 m9
        have kS3 := fun wx (h : Below wc.heap.size wc wx) => same_any k t s x (some ⟨gn, 0, none⟩) n cn es m0 m1 m2 k t s x A n c es m0 m1 m2 wc.heap.size wx (hx2 wx h) ((ha2 wx h).more hwc) h.size r0 r0
        have kS4 := fun wx (h : Below wc.heap.size wc wx) => refSame_any k t s x (some ⟨gn, 0, none⟩) n cn es m0 m1 m2 k t s x A n c es m0 m1 m2 wc.heap.size wx (hx2 wx h) ((ha2 wx h).more hwc) h.size r0 r0
        have kS5 := fun (A1 : Option Addr) (n1 c1 : Nat) (A2 : Option Addr) (n2 c2 B : Nat) (wx : World) (h1 : SlR wx B 4 A1 n1 (evVs y.1.es)) (h2 : SlR wx B 4 A2 n2 (evVs y.1.es)) (hB : B ≤ wx.heap.size) => refSame_any y.1.k y.1.t y.1.s y.1.x A1 n1 c1 y.1.es y.1.m0 y.1.m1 y.1.m2 y.1.k y.1.t y.1.s y.1.x A2 n2 c2 y.1.es y.1.m0 y.1.m1 y.1.m2 B wx h1 h2 hB (by have := h1.len; rw [evVs_length] at this; omega) (by have := h2.len; rw [evVs_length] at this; omega)
        have hyy : (⟨y.1.k, y.1.t, y.1.s, y.1.x, y.1.es, y.1.m0, y.1.m1, y.1.m2⟩ : Cmd) = y.1 := rfl
        rw [hyy, hyself] at kS5
        simp only [hpc] at kP1 kP2
        simp only [hqc] at kC1 kC2
        simp only [hy] at kG1 kG2
        simp only [hmt] at kM1 kM2
        simp only [hsm] at kS1 kS2
        simp only [hself] at kS3 kS4
        obtain ⟨S, hS⟩ : ∃ S : ByteArray, (⟨pc.1.toArray⟩ : ByteArray) = S := ⟨_, rfl⟩
        simp only [hS] at kP1 kP2
        have KP1 := Lib.hid kP1; have KP2 := Lib.hid kP2; have KC1 := Lib.hid kC1; have KC2 := Lib.hid kC2; have KG1 := Lib.hid kG1; have KG2 := Lib.hid kG2; have KM1 := Lib.hid kM1; have KM2 := Lib.hid kM2; have KS1 := Lib.hid kS1; have KS2 := Lib.hid kS2; have KS3 := Lib.hid kS3; have KS4 := Lib.hid kS4; have KS5 := Lib.hid kS5; have HT := Lib.hid hT0; have HBc := Lib.hid hBc
        clear kP1 kP2 kC1 kC2 kG1 kG2 kM1 kM2 kS1 kS2 kS3 kS4 kS5 hpc hqc hy hsm hmt hself hyself hyes hyy hS hT0 ha2 hd2 hx2 r1 r2 hBc hXc xc
        have HB := Below.refl wc.heap.size wc
        obtain ⟨cA, cD, cX, c77⟩ := HT.out _ HB
        go_wp2_with fail
        refine (KP1.out _ HB).mono ?_
        rintro e wx ⟨rfl, hb⟩
        replace HB := HB.trans (hb.mono HB.size)
        clear hb cA cD cX c77
        obtain ⟨cA, cD, cX, c77⟩ := HT.out _ HB
        go_wp2_with fail
        refine (KP2.out _ HB).mono ?_
        rintro e wx ⟨rfl, hb⟩
        replace HB := HB.trans (hb.mono HB.size)
        clear hb cA cD cX c77
        obtain ⟨cA, cD, cX, c77⟩ := HT.out _ HB
        go_wp2_with fail
        refine (KG1.out _).mono ?_
        rintro e w3 ⟨A1, n1, c1, rfl, hown1, hb⟩
        replace HB := HB.trans (hb.mono HB.size)
        clear hb cA cD cX c77
        go_wp2_with fail
        obtain ⟨w4, hw4⟩ : ∃ V, w3.alloc (.cells #[.int .i64 y.1.k, .int .i64 y.1.t, .string y.1.s, .int .i64 y.1.x, .slice A1 n1 c1, .int .i64 y.1.m0, .int .i64 y.1.m1, .int .i64 y.1.m2] 26) = V := ⟨_, rfl⟩
        have hG4 : BlkIs w4 w3.heap.size 26 #[.int .i64 y.1.k, .int .i64 y.1.t, .string y.1.s, .int .i64 y.1.x, .slice A1 n1 c1, .int .i64 y.1.m0, .int .i64 y.1.m1, .int .i64 y.1.m2] := by rw [← hw4]; exact BlkIs.new _ _ _
        have hb4 : Below w3.heap.size w3 w4 := by rw [← hw4]; exact (Below.refl _ _).alloc (Nat.le_refl _) _
        have hs4 := (SlR.own hown1).below hb4
        replace HB := HB.trans (hb4.mono HB.size)
        rw [hw4]
        clear hw4 hown1
        refine (KG2.out _).mono ?_
        rintro e w5 ⟨A2, n2, c2, rfl, hown2, hb⟩
        replace HB := HB.trans (hb.mono HB.size)
        obtain ⟨w6, hw6⟩ : ∃ V, w5.alloc (.cells #[.int .i64 y.1.k, .int .i64 y.1.t, .string y.1.s, .int .i64 y.1.x, .slice A2 n2 c2, .int .i64 y.1.m0, .int .i64 y.1.m1, .int .i64 y.1.m2] 26) = V := ⟨_, rfl⟩
        have hK6 : BlkIs w6 w5.heap.size 26 #[.int .i64 y.1.k, .int .i64 y.1.t, .string y.1.s, .int .i64 y.1.x, .slice A2 n2 c2, .int .i64 y.1.m0, .int .i64 y.1.m1, .int .i64 y.1.m2] := by rw [← hw6]; exact BlkIs.new _ _ _
        have hb6 : Below w5.heap.size w5 w6 := by rw [← hw6]; exact (Below.refl _ _).alloc (Nat.le_refl _) _
        have hG6 := (hG4.below hb hG4.lt).below hb6 (Nat.lt_of_lt_of_le hG4.lt hb.size)
        have h34 := hb4.size; have h45 := hb.size; have h56 := hb6.size
        have hs6 := ((hs4.below (hb.mono h34)).below (hb6.mono (Nat.le_trans h34 h45))).more (B' := w6.heap.size) (by omega)
        have hk6 := ((SlR.own hown2).below hb6).more (B' := w6.heap.size) h56
        replace HB := HB.trans (hb6.mono HB.size)
        have hZ0 : ∀ wx, Below w6.heap.size w6 wx → (∀ i, wx.cell? ⟨w.heap.size, i, none⟩ = (#[.int .i64 k, .int .i64 t, .string s, .int .i64 x, .slice A n c, .int .i64 m0, .int .i64 m1, .int .i64 m2] : Array Value)[i]?) ∧ (∀ i, wx.cell? ⟨V0.heap.size, i, none⟩ = (#[.int .i64 k', .int .i64 t', .string s', .int .i64 x', .slice D m d, .int .i64 p0, .int .i64 p1, .int .i64 p2] : Array Value)[i]?) ∧ (∀ i, wx.cell? ⟨wr.heap.size, i, none⟩ = (#[.int .i64 k, .int .i64 t, .string s, .int .i64 x, .slice (some ⟨gn, 0, none⟩) n cn, .int .i64 m0, .int .i64 m1, .int .i64 m2] : Array Value)[i]?) ∧ (∀ i, wx.cell? ⟨w3.heap.size, i, none⟩ = (#[.int .i64 y.1.k, .int .i64 y.1.t, .string y.1.s, .int .i64 y.1.x, .slice A1 n1 c1, .int .i64 y.1.m0, .int .i64 y.1.m1, .int .i64 y.1.m2] : Array Value)[i]?) ∧ (∀ i, wx.cell? ⟨w5.heap.size, i, none⟩ = (#[.int .i64 y.1.k, .int .i64 y.1.t, .string y.1.s, .int .i64 y.1.x, .slice A2 n2 c2, .int .i64 y.1.m0, .int .i64 y.1.m1, .int .i64 y.1.m2] : Array Value)[i]?) ∧ wx.cell? ⟨gn, n * 4, none⟩ = some (.int .i64 77) := fun wx h =>
          ⟨(HT.out _ (HB.trans (h.mono HB.size))).1, (HT.out _ (HB.trans (h.mono HB.size))).2.1, (HT.out _ (HB.trans (h.mono HB.size))).2.2.1, (hG6.below h hG6.lt).cell, (hK6.below h hK6.lt).cell, (HT.out _ (HB.trans (h.mono HB.size))).2.2.2⟩
        have hY0 := fun wx (h : Below w6.heap.size w6 wx) => KS5.out A1 n1 c1 A2 n2 c2 w6.heap.size wx (hs6.below h) (hk6.below h) h.size
        have HZ := Lib.hid hZ0; have KY := Lib.hid hY0; have HB6 := Lib.hid HB
        clear hb hb4 hb6 hG4 hs4 hK6 hG6 hs6 hk6 hown2 hZ0 hY0 HB
        have HB := Below.refl w6.heap.size w6
        have hS := HZ.out _ HB
        have wn1 : IntKind.i64.wrap ((n : Int) + 1) = (n : Int) + 1 := IntWalk.i64_in _ (by omega)
        have wn2 : 0 ≤ (n : Int) + 1 := by omega
        have wn3 : (n : Int) + 1 ≤ (cn : Int) := by omega
        have wn4 : ((n : Int) + 1).toNat = n + 1 := by omega
        have wn5 : (n : Int) < (n : Int) + 1 := by omega
        have wn6 : (0 : Int) ≤ (n : Int) := by omega
        have e1 : (mt == mt) = true := by simp
        have e2 : (qc == qc) = true := by simp
        have e3 : (S.toList == S.toList) = true := by simp
        have e4 : (pc.2 == pc.2) = true := by simp
        have e5 : (y.2 == y.2) = true := by simp
        have e6 : (sm == sm) = true := by simp
        have tok1 : True := trivial
        go_wp2_with fail
        (try rw [hw6])
        clear hw6
        (try simp only [List.append_eq, List.cons_append, List.nil_append])
        
        go_region_held3 (fun wx => (∀ i, wx.cell? ⟨w.heap.size, i, none⟩ = (#[.int .i64 k, .int .i64 t, .string s, .int .i64 x, .slice A n c, .int .i64 m0, .int .i64 m1, .int .i64 m2] : Array Value)[i]?) ∧ (∀ i, wx.cell? ⟨V0.heap.size, i, none⟩ = (#[.int .i64 k', .int .i64 t', .string s', .int .i64 x', .slice D m d, .int .i64 p0, .int .i64 p1, .int .i64 p2] : Array Value)[i]?) ∧ (∀ i, wx.cell? ⟨wr.heap.size, i, none⟩ = (#[.int .i64 k, .int .i64 t, .string s, .int .i64 x, .slice (some ⟨gn, 0, none⟩) n cn, .int .i64 m0, .int .i64 m1, .int .i64 m2] : Array Value)[i]?) ∧ (∀ i, wx.cell? ⟨w3.heap.size, i, none⟩ = (#[.int .i64 y.1.k, .int .i64 y.1.t, .string y.1.s, .int .i64 y.1.x, .slice A1 n1 c1, .int .i64 y.1.m0, .int .i64 y.1.m1, .int .i64 y.1.m2] : Array Value)[i]?) ∧ (∀ i, wx.cell? ⟨w5.heap.size, i, none⟩ = (#[.int .i64 y.1.k, .int .i64 y.1.t, .string y.1.s, .int .i64 y.1.x, .slice A2 n2 c2, .int .i64 y.1.m0, .int .i64 y.1.m1, .int .i64 y.1.m2] : Array Value)[i]?) ∧ wx.cell? ⟨gn, n * 4, none⟩ = some (.int .i64 77)) (first | exact hS | go_keep) ((first
          | (go_at_call 11; (with_reducible refine (alive7_any _).mono ?_); rintro e wx ⟨rfl, hb⟩; have HB := HB.trans ((by first | exact hb | exact below_undrew hb : Below _ _ _).mono HB.size); have hS := HZ.out _ HB)
          | (go_at_call 27; (with_reducible refine (KM1.out _).mono ?_); rintro e wx ⟨rfl, hb⟩; have HB := HB.trans ((by first | exact hb | exact below_undrew hb : Below _ _ _).mono HB.size); have hS := HZ.out _ HB)
          | (go_at_call 28; (with_reducible refine (KM2.out _).mono ?_); rintro e wx ⟨rfl, hb⟩; have HB := HB.trans ((by first | exact hb | exact below_undrew hb : Below _ _ _).mono HB.size); have hS := HZ.out _ HB)
          | (go_at_call 12; (with_reducible refine (KC1.out _ (HB6.out.trans ((by first | exact HB | exact below_drewN HB 1 : Below w6.heap.size w6 _).mono HB6.out.size))).mono ?_); rintro e wx ⟨rfl, hb⟩; have HB := HB.trans ((by first | exact hb | exact below_undrew hb : Below _ _ _).mono HB.size); have hS := HZ.out _ HB)
          | (go_at_call 29; (with_reducible refine (KC2.out _ (HB6.out.trans ((by first | exact HB | exact below_drewN HB 1 : Below w6.heap.size w6 _).mono HB6.out.size))).mono ?_); rintro e wx ⟨rfl, hb⟩; have HB := HB.trans ((by first | exact hb | exact below_undrew hb : Below _ _ _).mono HB.size); have hS := HZ.out _ HB)
          | (go_at_call 30; (with_reducible refine (KY.out _ (by first | exact HB | exact below_drewN HB 1 : Below w6.heap.size w6 _)).mono ?_); rintro e wx ⟨rfl, hb⟩; have HB := HB.trans ((by first | exact hb | exact below_undrew hb : Below _ _ _).mono HB.size); have hS := HZ.out _ HB)
          | (go_at_call 31; (with_reducible refine (KS1.out _ (HB6.out.trans ((by first | exact HB | exact below_drewN HB 1 : Below w6.heap.size w6 _).mono HB6.out.size))).mono ?_); rintro e wx ⟨rfl, hb⟩; have HB := HB.trans ((by first | exact hb | exact below_undrew hb : Below _ _ _).mono HB.size); have hS := HZ.out _ HB)
          | (go_at_call 30; (with_reducible refine (KS2.out _ (HB6.out.trans ((by first | exact HB | exact below_drewN HB 1 : Below w6.heap.size w6 _).mono HB6.out.size))).mono ?_); rintro e wx ⟨rfl, hb⟩; have HB := HB.trans ((by first | exact hb | exact below_undrew hb : Below _ _ _).mono HB.size); have hS := HZ.out _ HB)
          | (go_at_call 31; (with_reducible refine (KS3.out _ (HB6.out.trans ((by first | exact HB | exact below_drewN HB 1 : Below w6.heap.size w6 _).mono HB6.out.size))).mono ?_); rintro e wx ⟨rfl, hb⟩; have HB := HB.trans ((by first | exact hb | exact below_undrew hb : Below _ _ _).mono HB.size); have hS := HZ.out _ HB)
          | (go_at_call 30; (with_reducible refine (KS4.out _ (HB6.out.trans ((by first | exact HB | exact below_drewN HB 1 : Below w6.heap.size w6 _).mono HB6.out.size))).mono ?_); rintro e wx ⟨rfl, hb⟩; have HB := HB.trans ((by first | exact hb | exact below_undrew hb : Below _ _ _).mono HB.size); have hS := HZ.out _ HB)))
        all_goals
          have HB' := Lib.hid (HBc.out.trans ((HB6.out.trans (HB.mono HB6.out.size)).mono HBc.out.size))
          clear HB hS
          go_wp2_with fail
          go_ret
          exact ⟨by simp, HbV.out.trans (HB'.out.mono HbV.out.size)⟩

theorem eventTells_any (k t : Int) (s : ByteArray) (x : Int) (A : Option Addr) (n c : Nat) (es : List Ev) (m0 m1 m2 : Int) (k' t' : Int) (s' : ByteArray) (x' : Int) (D : Option Addr) (m d : Nat) (fs : List Ev) (p0 p1 p2 : Int) (b : ByteArray) (w : World)
    (ha : SlR w w.heap.size 4 A n (evVs es)) (hd : SlR w w.heap.size 4 D m (evVs fs)) (hn : n ≤ 9223372036854775807) (hm : m ≤ 9223372036854775807) (hf : (⟨k, t, s, x, es, m0, m1, m2⟩ : Cmd).fits) (hf2 : (⟨k', t', s', x', fs, p0, p1, p2⟩ : Cmd).fits) (hb : b.size ≤ 9223372036854775807) :
    Calls Try.prog 6 #[.agg #[.int .i64 k, .int .i64 t, .string s, .int .i64 x, .slice A n c, .int .i64 m0, .int .i64 m1, .int .i64 m2], .agg #[.int .i64 k', .int .i64 t', .string s', .int .i64 x', .slice D m d, .int .i64 p0, .int .i64 p1, .int .i64 p2], .string b] w fun e w' => e = .returned (.bool true) ∧ Below w.heap.size w w' := by
  cases h1 : smallC s es with
  | false => exact tells7_early k t s x A n c es m0 m1 m2 k' t' s' x' D m d fs p0 p1 p2 b w ha hd hn hm hf hf2 hb (.inl h1)
  | true =>
    cases h2 : smallC s' fs with
    | false => exact tells7_early k t s x A n c es m0 m1 m2 k' t' s' x' D m d fs p0 p1 p2 b w ha hd hn hm hf hf2 hb (.inr (.inl ⟨h1, h2⟩))
    | true =>
      by_cases h3 : 4000 < b.size
      · exact tells7_early k t s x A n c es m0 m1 m2 k' t' s' x' D m d fs p0 p1 p2 b w ha hd hn hm hf hf2 hb (.inr (.inr ⟨h1, h2, h3⟩))
      · exact tells7_main k t s x A n c es m0 m1 m2 k' t' s' x' D m d fs p0 p1 p2 b w ha hd hn hm hf hf2 hb h1 h2 (by omega)
end Go.Proofs.Ytfpalamoaflilaa
