/- The document's own net: Take. -/
import Derived.Test.YtadhboioaacaeaaRefNet
namespace Go.Proofs.Ytadhboioaacaeaa
open Go.RowKit
set_option maxHeartbeats 2000000
set_option maxRecDepth 100000
set_option linter.unusedVariables false

theorem refIs_row {S : Nat → Prop} {g : Nat} {X w4 : World} {v1 v2 v' : Value} {ps' : List Pk} {cs : List (Int × Int)} (hB : BlkIs X g 42 #[v1, v2]) (h2 : X.ownsRow 0 53 2 v2 cs.length (prVs cs)) (s1 : S g) (s3 : ∀ x, v2.ownBlock = some x → S x)
    (hb : Below X.heap.size X w4) (hown : w4.ownsRow 0 28 3 v' ps'.length (pkVs ps')) (hat : ∀ b, v'.ownBlock = some b → S b) :
    RefIs (w4.setCell ⟨g, 0, none⟩ v') S g ps' cs := by
  have hB4 := hB.below hb hB.lt
  have h24 := own_below h2 hb (fun q hq => (h2.lt q hq).2)
  have hne := own_ne_blk hown hB4 (by decide)
  have hne2 := own_ne_blk h24 hB4 (by decide)
  exact ⟨v', v2, hB4.put 0 v', own_far hown hne _, own_far h24 hne2 _, s1, hat, s3⟩
theorem own_base {w : World} {base base' n size : Nat} {e : TypeId} {v : Value} {xs : List Value} (h : w.ownsRow base e size v n xs) (hb : base' ≤ base) : w.ownsRow base' e size v n xs := by
  refine ⟨h.1, ?_⟩
  rcases h.2 with h0 | ⟨g', cap, cur, h1, h2, rest⟩
  · exact .inl h0
  · exact .inr ⟨g', cap, cur, h1, Nat.le_trans hb h2, rest⟩
/-- the part of a slice of packets behind the first k, some address known -/
theorem pk_cut {w : World} {B n k cap q : Nat} {ps : List Pk} (h : SlR w B 3 (some ⟨q, 0, none⟩) n (pkVs ps)) (hk : k ≤ n) (hk0 : 0 < k) (hc : n ≤ cap) :
    SlR w B 3 (if cap = k then some ⟨q, 0, none⟩ else some ⟨q, k * 3, none⟩) (n - k) (pkVs (ps.drop k)) := by
  have := h.cut hk hc
  rw [pkVs_drop] at this
  have e : ((some (⟨q, 0, none⟩ : Addr)).map (·.add (k * 3))) = some ⟨q, k * 3, none⟩ := by simp [Addr.add]; omega
  rw [e] at this
  exact this
theorem pk_first {w : World} {B n k : Nat} {A : Option Addr} {ps : List Pk} (h : SlR w B 3 A n (pkVs ps)) (hk : k ≤ n) : SlR w B 3 A k (pkVs (ps.take k)) := by
  have := h.first hk
  rwa [pkVs_take] at this

theorem refTake_any (S : Nat → Prop) (g : Nat) (ps : List Pk) (cs : List (Int × Int)) (j : Int) (w : World) (h : RefIs w S g ps cs) (hps : ps.length ≤ 1000000) :
    Calls Try.prog 20 #[.pointer (some ⟨g, 0, none⟩), .int .i64 j] w fun e w' => e = .returned (.tuple #[pkA (getP ps j), .bool (hasB ps j)]) ∧ RefStep S g w w' (dropP ps j) cs := by
  have hi := refHas_any S g ps cs j (zero3 w) (h.alloc _)
  cases hb : hasB ps j with
  | false =>
    rw [hb] at hi
    have hv : getP ps j = (0, 0, ByteArray.empty) := by unfold getP; rw [hb]; rfl
    have hd : dropP ps j = ps := by unfold dropP; rw [hb]; rfl
    rw [hv, hd]
    unfold zero3 at hi
    have Hi := Lib.hid hi; have Hh := Lib.hid h
    clear h hv hi hb hd
    go_enter Try.func20, Try.ntmps20
    go_wp2_with fail
    refine Hi.out.mono ?_
    rintro e w1 ⟨rfl, rfl⟩
    go_wp2_with fail
    exact bodyPost_ret (v := .tuple #[pkA (0, 0, ByteArray.empty), .bool false]) (by simp [results, Try.results20, go_sem, pkA]; rfl) rfl ⟨rfl, RefIs.same Hh.out ((Below.refl _ _).alloc (Nat.le_refl _) _)⟩
  | true =>
    rw [hb] at hi
    obtain ⟨n, rfl, hn⟩ := hasB_nat hb
    obtain ⟨p, hp⟩ : ∃ p, ps[n]? = some p := ⟨_, List.getElem?_eq_getElem hn⟩
    have hd : dropP ps (n : Int) = ps.take n ++ ps.drop (n + 1) := by unfold dropP; rw [hb]; rfl
    rw [getP_yes hp, hd]
    obtain ⟨x, y, s⟩ := p
    obtain ⟨i0, hi0, hz0, hz1, hz2⟩ := info_parts info_pk
    obtain ⟨v1, v2, hB, hr, h2, s1, s2, s3⟩ := id h.shrink
    have hg := hB.lt
    have hc0 := hB.cell 0
    simp at hc0
    obtain ⟨q, c, rfl, _, hq⟩ := hr.form (by omega)
    have hnc := own_cap hr (by omega)
    have hcm : c ≤ maxLen := by
      rcases hr.2 with ⟨h', _⟩ | ⟨g', cap', cur, h', _, hg, _, hcm, _⟩
      · simp at h'
      · injection h' with _ _ h'; omega
    simp only [maxLen] at hcm
    have k0 := (hr.cellAt (n * 3) (by omega)).trans (pkVs_get ps n 0 _ hp (by omega))
    have k1 := (hr.cellAt (n * 3 + 1) (by omega)).trans (pkVs_get ps n 1 _ hp (by omega))
    have k2 := (hr.cellAt (n * 3 + 2) (by omega)).trans (pkVs_get ps n 2 _ hp (by omega))
    simp [pkC] at k0 k1 k2
    obtain ⟨W, hW⟩ : ∃ W, W = (w.alloc (.cells #[.int .i64 0, .int .i64 0, .string ByteArray.empty] 28)).alloc (.cells #[.int .i64 x, .int .i64 y, .string s] 28) := ⟨_, rfl⟩
    have hbW : Below w.heap.size w W := by rw [hW]; exact below_new (below_new (Below.refl _ _) (Nat.le_refl _) _) (Nat.le_refl _) _
    have hWs : W.heap.size = w.heap.size + 1 + 1 := by rw [hW]; simp
    have hZ : BlkIs W w.heap.size 28 #[.int .i64 0, .int .i64 0, .string ByteArray.empty] := by rw [hW]; exact (BlkIs.new w _ _).alloc _
    have hP : BlkIs W (w.heap.size + 1) 28 #[.int .i64 x, .int .i64 y, .string s] := by
      rw [hW]
      have := BlkIs.new (w.alloc (.cells #[.int .i64 0, .int .i64 0, .string ByteArray.empty] 28)) 28 #[.int .i64 x, .int .i64 y, .string s]
      simpa using this
    obtain ⟨M, hM⟩ : ∃ M : Nat, M = n + 1 := ⟨_, rfl⟩
    obtain ⟨A2, hA2⟩ : ∃ A2 : Option Addr, A2 = (if c = M then some ⟨q, 0, none⟩ else some ⟨q, M * 3, none⟩) := ⟨_, rfl⟩
    have hcutS := pk_cut (k := M) (SlR.own hr) (by omega) (by omega) hnc
    rw [← hA2] at hcutS
    have hA3 : (c = M ∧ A2 = some ⟨q, 0, none⟩) ∨ (¬ c = M ∧ A2 = some ⟨q, M * 3, none⟩) := by
      by_cases hcM : c = M
      · exact .inl ⟨hcM, by rw [hA2, if_pos hcM]⟩
      · exact .inr ⟨hcM, by rw [hA2, if_neg hcM]⟩
    clear hA2
    have KF : ∀ wx, Below W.heap.size W wx → SlR wx w.heap.size 3 (some ⟨q, 0, none⟩) n (pkVs (ps.take n)) := fun wx hb => ((pk_first (SlR.own hr) (by omega)).below hbW).below (hb.mono hbW.size)
    have KC : ∀ wx, Below W.heap.size W wx → SlR wx w.heap.size 3 A2 (ps.length - M) (pkVs (ps.drop M)) := fun wx hb => (hcutS.below hbW).below (hb.mono hbW.size)
    have KB : ∀ wx, Below W.heap.size W wx → BlkIs wx g 42 #[.slice (some ⟨q, 0, none⟩) ps.length c, v2] := fun wx hb => (hB.below hbW hg).below (hb.mono hbW.size) hg
    have KZ : ∀ wx, Below W.heap.size W wx → BlkIs wx w.heap.size 28 #[.int .i64 0, .int .i64 0, .string ByteArray.empty] := fun wx hb => hZ.below hb (by omega)
    have KP : ∀ wx, Below W.heap.size W wx → BlkIs wx (w.heap.size + 1) 28 #[.int .i64 x, .int .i64 y, .string s] := fun wx hb => hP.below hb (by omega)
    have KE : ∀ wx v', Below W.heap.size W wx → wx.ownsRow W.heap.size 28 3 v' (n + (ps.length - M)) (pkVs (ps.take n) ++ pkVs (ps.drop M)) →
        RefStep S g w (set3 (wx.setCell ⟨g, 0, none⟩ v') w.heap.size (.int .i64 x) (.int .i64 y) (.string s)) (ps.take n ++ ps.drop M) cs := fun wx v' hb hown => by
      have hl : (ps.take n ++ ps.drop M).length = n + (ps.length - M) := by rw [List.length_append, List.length_take, List.length_drop]; omega
      have hR : RefIs (wx.setCell ⟨g, 0, none⟩ v') (fun b => S b ∧ b < w.heap.size ∨ W.heap.size ≤ b) g (ps.take n ++ ps.drop M) cs :=
        refIs_row (hB.below hbW hg) (own_below h2 hbW (fun q hq => (h2.lt q hq).2)) (.inl s1) (fun b hb => .inl (s3 b hb)) hb (by rw [hl, pkVs_append]; exact own_base hown (Nat.zero_le _)) (fun b hb => .inr (hown.lt b hb).1)
      refine ⟨_, hR.chg (T := fun b => b = w.heap.size) (set3_chg (Chg.refl (fun b => b = w.heap.size) _) (fun _ => (rfl : w.heap.size = w.heap.size)) _ _ _) (fun b _ hb e => ?_), ?_, fun b hb => ?_⟩
      · rcases hb with h | h <;> omega
      · refine set3_chg (((Chg.of_below hbW).under hb hbW.size).set (fun _ => s1.1) _) (fun h => absurd h (Nat.lt_irrefl _)) _ _ _
      · rcases hb with h | h
        · exact .inl h.1
        · exact .inr (Nat.le_trans hbW.size h)
    have KF1 := Lib.hid KF; have KC1 := Lib.hid KC; have KB1 := Lib.hid KB; have KZ1 := Lib.hid KZ; have KP1 := Lib.hid KP; have KE1 := Lib.hid KE
    have HW := Lib.hid hW; have HWs := Lib.hid hWs; have Hi := Lib.hid hi
    have n0 : (0 : Int) ≤ (n : Int) := by omega
    have n1 : (n : Int) < (ps.length : Int) := by omega
    have n2 : (n : Int) ≤ (c : Int) := by omega
    have n3 : (M : Int) ≤ (ps.length : Int) := by omega
    have n4 : (0 : Int) ≤ (M : Int) := by omega
    have n5 : IntKind.i64.wrap ((n : Int) + 1) = (M : Int) := by rw [hM]; exact IntWalk.i64_in _ (by omega)
    have HM := Lib.hid hM
    rw [← hM]
    have hgW : g < W.heap.size := by omega
    have hgz : g ≠ w.heap.size := by omega
    have hgp : g ≠ w.heap.size + 1 := by omega
    clear h hi hb hp hB hr h2 s2 s3 KF KC KB KZ KP KE hW hWs hbW hZ hP hcutS hd s1 hM
    unfold zero3 at Hi
    rcases hA3 with ⟨rfl, rfl⟩ | ⟨hcM, rfl⟩
    · have hz : ps.length - c = 0 := by have := HM.out; omega
      have hdz : ps.drop c = [] := List.drop_of_length_le (by omega)
      simp only [hz, hdz] at KC1 KE1
      have Hdz := Lib.hid hdz
      clear hz hdz
      go_enter Try.func20, Try.ntmps20
      go_wp2_with fail
      refine Hi.out.mono ?_
      rintro e w1 ⟨rfl, rfl⟩
      go_wp2_with fail
      rw [← HW.out]
      have b0 := (KB1.out W (Below.refl _ _)).cell 0
      simp at b0
      have tok1 : True := trivial
      go_region_law (first
        | (have _t := tok1; clear tok1 _t; refine step_append_sl (by rfl) (.const (.slice none 0 0)) (.tmp 25) _ (by rfl) W.heap.size 28 i0 _ 3 32 Try.underlying39 hi0 hz0 hz1 hz2 rfl (by omega) (.slice none 0 0) 0 [] (by simp [Act.eval]) (World.ownsRow_nil _ _ _ _) w.heap.size (some ⟨q, 0, none⟩) n c (pkVs (ps.take n)) (by simp [Act.eval, Act.put]) (KF1.out _ (by repeat (first | exact Below.refl _ _ | refine Below.drew ?_))) (pkVs_one _) (by simp only [maxLen]; omega) (by omega) (by simp <;> omega) ?_; intro va wa hown1 hg1 hat1; have HA : Hid (Below W.heap.size W wa) := Lib.hid (((Below.refl _ _).drew).grown hg1 (by simp <;> omega) (by simp [Value.ownBlock])); simp only [Nat.zero_add, List.nil_append] at hown1; have HO := Lib.hid hown1; have hb0 := (KB1.out wa HA.out).cell 0; simp at hb0; clear hown1 hg1 hat1)
        | (refine step_append_sl (by rfl) (.tmp 26) (.tmp 33) _ (by rfl) W.heap.size 28 i0 _ 3 32 Try.underlying39 hi0 hz0 hz1 hz2 rfl (by omega) va n (pkVs (ps.take n)) (by simp [Act.eval, Act.put]) (by first | exact HO.out | exact HO.out.drew) w.heap.size (some ⟨q, 0, none⟩) 0 0 (pkVs []) (by simp [Act.eval, Act.put]) (KC1.out _ (by first | exact HA.out | exact HA.out.drew)) (pkVs_one _) (by simp only [maxLen]; omega) (by omega) (by have := HA.out.size; simp <;> omega) ?_; intro vb wb hown2 hg2 hat2; have HBb : Hid (Below W.heap.size W wb) := Lib.hid (HA.out.grown hg2 HA.out.size (fun q hq => (HO.out.lt q hq).1)); obtain ⟨A9, c9, rfl, _⟩ := own_slice hown2; have HO2 := Lib.hid hown2; have hb1 := (KB1.out wb HBb.out).cell 0; have hf1 := (KB1.out wb HBb.out).free 0; simp at hb1; clear hown2 hg2 hat2))

      all_goals
        have z0 := (KZ1.out wb HBb.out).cell 0; have z1 := (KZ1.out wb HBb.out).cell 1; have z2 := (KZ1.out wb HBb.out).cell 2; have zf := (KZ1.out wb HBb.out).free
        have q0 := (KP1.out wb HBb.out).cell 0; have q1 := (KP1.out wb HBb.out).cell 1; have q2 := (KP1.out wb HBb.out).cell 2
        simp at z0 z1 z2 q0 q1 q2
        have hzz := KZ1.out wb HBb.out
        have hE := KE1.out wb _ HBb.out (by first | exact HO2.out | (have := HO2.out; simpa [pkVs] using this))
        have HZZ := Lib.hid hzz; have HE := Lib.hid hE
        clear hzz hE
        go_wp2_with fail
        obtain ⟨W5, hW5⟩ : ∃ W5, W5 = wb.setCell ⟨g, 0, none⟩ (.slice A9 n c9) := ⟨_, rfl⟩
        have hBW := set3_blk (show BlkIs W5 w.heap.size 28 #[.int .i64 0, .int .i64 0, .string ByteArray.empty] by rw [hW5]; exact HZZ.out.far (p := ⟨g, 0, none⟩) (Ne.symm hgz) _) (.int .i64 x) (.int .i64 y) (.string s)
        have hE := HE.out
        simp only [Nat.add_zero] at hE
        rw [← hW5] at hE
        obtain ⟨W6, hW6⟩ : ∃ W6, W6 = set3 W5 w.heap.size (.int .i64 x) (.int .i64 y) (.string s) := ⟨_, rfl⟩
        rw [← hW6] at hBW hE
        unfold set3 at hW6
        rw [← hW5, ← hW6]
        have c0 := hBW.cell 0; have c1 := hBW.cell 1; have c2 := hBW.cell 2
        simp at c0 c1 c2
        exact bodyPost_ret (v := .tuple #[pkA (x, y, s), .bool true]) (by clear hW5 hW6; simp [results, Try.results20, go_sem, pkA, c0, c1, c2]) rfl ⟨rfl, by rw [Hdz.out]; exact hE⟩
    · skip
      go_enter Try.func20, Try.ntmps20
      go_wp2_with fail
      refine Hi.out.mono ?_
      rintro e w1 ⟨rfl, rfl⟩
      go_wp2_with fail
      rw [← HW.out]
      have b0 := (KB1.out W (Below.refl _ _)).cell 0
      simp at b0
      have tok1 : True := trivial
      go_region_law (first
        | (have _t := tok1; clear tok1 _t; refine step_append_sl (by rfl) (.const (.slice none 0 0)) (.tmp 25) _ (by rfl) W.heap.size 28 i0 _ 3 32 Try.underlying39 hi0 hz0 hz1 hz2 rfl (by omega) (.slice none 0 0) 0 [] (by simp [Act.eval]) (World.ownsRow_nil _ _ _ _) w.heap.size (some ⟨q, 0, none⟩) n c (pkVs (ps.take n)) (by simp [Act.eval, Act.put]) (KF1.out _ (by repeat (first | exact Below.refl _ _ | refine Below.drew ?_))) (pkVs_one _) (by simp only [maxLen]; omega) (by omega) (by simp <;> omega) ?_; intro va wa hown1 hg1 hat1; have HA : Hid (Below W.heap.size W wa) := Lib.hid (((Below.refl _ _).drew).grown hg1 (by simp <;> omega) (by simp [Value.ownBlock])); simp only [Nat.zero_add, List.nil_append] at hown1; have HO := Lib.hid hown1; have hb0 := (KB1.out wa HA.out).cell 0; simp at hb0; clear hown1 hg1 hat1)
        | (refine step_append_sl (by rfl) (.tmp 26) (.tmp 33) _ (by rfl) W.heap.size 28 i0 _ 3 32 Try.underlying39 hi0 hz0 hz1 hz2 rfl (by omega) va n (pkVs (ps.take n)) (by simp [Act.eval, Act.put]) (by first | exact HO.out | exact HO.out.drew) w.heap.size (some ⟨q, M * 3, none⟩) (ps.length - M) (c - M) (pkVs (ps.drop M)) (by simp [Act.eval, Act.put]) (KC1.out _ (by first | exact HA.out | exact HA.out.drew)) (pkVs_one _) (by simp only [maxLen]; omega) (by omega) (by have := HA.out.size; simp <;> omega) ?_; intro vb wb hown2 hg2 hat2; have HBb : Hid (Below W.heap.size W wb) := Lib.hid (HA.out.grown hg2 HA.out.size (fun q hq => (HO.out.lt q hq).1)); obtain ⟨A9, c9, rfl, _⟩ := own_slice hown2; have HO2 := Lib.hid hown2; have hb1 := (KB1.out wb HBb.out).cell 0; have hf1 := (KB1.out wb HBb.out).free 0; simp at hb1; clear hown2 hg2 hat2))

      all_goals
        have z0 := (KZ1.out wb HBb.out).cell 0; have z1 := (KZ1.out wb HBb.out).cell 1; have z2 := (KZ1.out wb HBb.out).cell 2; have zf := (KZ1.out wb HBb.out).free
        have q0 := (KP1.out wb HBb.out).cell 0; have q1 := (KP1.out wb HBb.out).cell 1; have q2 := (KP1.out wb HBb.out).cell 2
        simp at z0 z1 z2 q0 q1 q2
        have hzz := KZ1.out wb HBb.out
        have hE := KE1.out wb _ HBb.out (by first | exact HO2.out | (have := HO2.out; simpa [pkVs] using this))
        have HZZ := Lib.hid hzz; have HE := Lib.hid hE
        clear hzz hE
        go_wp2_with fail
        obtain ⟨W5, hW5⟩ : ∃ W5, W5 = wb.setCell ⟨g, 0, none⟩ (.slice A9 (n + (ps.length - M)) c9) := ⟨_, rfl⟩
        have hBW := set3_blk (show BlkIs W5 w.heap.size 28 #[.int .i64 0, .int .i64 0, .string ByteArray.empty] by rw [hW5]; exact HZZ.out.far (p := ⟨g, 0, none⟩) (Ne.symm hgz) _) (.int .i64 x) (.int .i64 y) (.string s)
        have hE := HE.out
        rw [← hW5] at hE
        obtain ⟨W6, hW6⟩ : ∃ W6, W6 = set3 W5 w.heap.size (.int .i64 x) (.int .i64 y) (.string s) := ⟨_, rfl⟩
        rw [← hW6] at hBW hE
        unfold set3 at hW6
        rw [← hW5, ← hW6]
        have c0 := hBW.cell 0; have c1 := hBW.cell 1; have c2 := hBW.cell 2
        simp at c0 c1 c2
        exact bodyPost_ret (v := .tuple #[pkA (x, y, s), .bool true]) (by clear hW5 hW6; simp [results, Try.results20, go_sem, pkA, c0, c1, c2]) rfl ⟨rfl, hE⟩
end Go.Proofs.Ytadhboioaacaeaa
