/- The net: one packet put. -/
import Derived.Test.YtadhboioaacaeaaNetKey
namespace Go.Proofs.Ytadhboioaacaeaa
open Go.RowKit
set_option maxHeartbeats 1000000
set_option maxRecDepth 100000
set_option linter.unusedVariables false

/-- what a call makes of the net -/
def NetStep (S : Nat → Prop) (g : Nat) (w w' : World) (ps : List Pk) (k : Nat) (C : Int → Int → Bool) : Prop :=
  ∃ S', NetIs w' S' g ps k C ∧ Chg S w w' ∧ ∀ b, S' b → S b ∨ w.heap.size ≤ b
/-- is there room, and are the ends not cut? -/
def putB (C : Int → Int → Bool) (ps : List Pk) (p : Pk) : Bool := !C (min p.1 p.2.1) (max p.1 p.2.1) && decide (ps.length < 2000)
def putL (C : Int → Int → Bool) (ps : List Pk) (p : Pk) : List Pk := if putB C ps p then ps ++ [p] else ps
/-- a packet as a value -/
def pkA (p : Pk) : Value := .agg #[.int .i64 p.1, .int .i64 p.2.1, .string p.2.2]

theorem NetIs.same {S : Nat → Prop} {g k : Nat} {ps : List Pk} {C : Int → Int → Bool} {w w' : World} (h : NetIs w S g ps k C) (hb : Below w.heap.size w w') : NetStep S g w w' ps k C :=
  ⟨S, h.below hb, Chg.of_below hb, fun _ hs => .inl hs⟩
theorem netStep_row {S : Nat → Prop} {g k n r : Nat} {xs : List Value} {ps : List Pk} {C : Int → Int → Bool} {w X w4 : World} {v v' : Value} {D : DataW Unit}
    (hB : BlkIs X g 51 #[v, .map (some r)]) (hr : X.ownsRow 0 28 3 v n xs) (hm : X.ownsMap Try.prog 53 (unitElem (H := Unit)) r k D) (hD : CutD D C) (s1 : S g) (s2 : S r) (s3 : ∀ x, v.ownBlock = some x → S x)
    (hC : Chg S w X) (hg : X.grownBy w4 v.ownBlock) (hown : w4.ownsRow 0 28 3 v' ps.length (pkVs ps)) (hat : ∀ b, v'.ownBlock = some b → v.ownBlock = some b ∨ X.heap.size ≤ b) :
    NetStep S g w (w4.setCell ⟨g, 0, none⟩ v') ps k C := by
  have hne := own_ne_blk hr hB (by decide)
  have hB4 := hB.grown hg (Ne.symm hne)
  have hne4 := own_ne_blk hown hB4 (by decide)
  have hm4 := hm.kept hg (Ne.symm (own_ne_map hm hr))
  refine ⟨fun b => S b ∨ w.heap.size ≤ b, ⟨v', r, D, hB4.put 0 v', own_far hown hne4 _, hm4.setCell (Ne.symm (blk_ne_map hm hB)) _, hD, .inl s1, .inl s2, fun x hx => ?_⟩, (hC.grown hg (fun x hx _ => s3 x hx)).set (fun _ => s1) _, fun b hb => hb⟩
  rcases hat x hx with h | h
  · exact .inl (s3 x h)
  · exact .inr (Nat.le_trans hC.size h)
theorem below_new {B : Nat} {a w : World} (h : Below B a w) (hB : B ≤ a.heap.size) (o : Obj) : Below B a (w.alloc o) := h.alloc (Nat.le_trans hB h.size) o

theorem wp_world {P : Program} {c : Code} {Q : Exit → Act → World → Prop} {a : Act} {w W : World} {B : Nat} (h : ∀ X, Below B W X → Code.wp P c Q a X) (hb : Below B W w) : Code.wp P c Q a w := h w hb
theorem unit_zero (w : World) : (zeroValue 55).run Try.prog w = .ok (.agg #[]) w := by kernel_rfl
theorem net_look {w : World} {r k : Nat} {D : DataW Unit} (h : w.ownsMap Try.prog 53 (unitElem (H := Unit)) r k D) {key : Value} {l : Lit} (hkey : keyOf Try.prog 53 key = some l) {b : Bool} (hb : Maps.has D l = b) :
    (Instr.lookup 49 (.map (some r)) key true).run Try.prog w = .ok (.tuple #[.agg #[], .bool b]) w := by
  subst hb
  obtain ⟨v, ps, hrun, hr⟩ := h.look_ok endsKey Try.underlying49 (unit_zero w) unitElem_mk hkey
  have e := (unitElem_inv hr).1
  subst e
  exact hrun

theorem put_any (S : Nat → Prop) (g k : Nat) (ps : List Pk) (C : Int → Int → Bool) (x y : Int) (s : ByteArray) (w : World) (h : NetIs w S g ps k C) (hx : -9223372036854775808 ≤ x ∧ x ≤ 9223372036854775807) (hy : -9223372036854775808 ≤ y ∧ y ≤ 9223372036854775807) :
    Calls Try.prog 27 #[.pointer (some ⟨g, 0, none⟩), .agg #[.int .i64 x, .int .i64 y, .string s]] w fun e w' => e = .returned (.bool (putB C ps (x, y, s))) ∧ NetStep S g w w' (putL C ps (x, y, s)) k C := by
  obtain ⟨W, hW⟩ : ∃ W, W = w.alloc (.cells #[.int .i64 x, .int .i64 y, .string s] 28) := ⟨_, rfl⟩
  have hbW : Below w.heap.size w W := by rw [hW]; exact (Below.refl _ _).alloc (Nat.le_refl _) _
  have hW1 : W.heap.size = w.heap.size + 1 := by rw [hW]; simp
  have hk0 : W.cell? ⟨w.heap.size, 0, none⟩ = some (.int .i64 x) := by rw [hW]; simp
  have hk1 : W.cell? ⟨w.heap.size, 1, none⟩ = some (.int .i64 y) := by rw [hW]; simp
  have hk2 : W.cell? ⟨w.heap.size, 2, none⟩ = some (.string s) := by rw [hW]; simp
  have h0 := Lib.hid h
  obtain ⟨v, r, D, hB0, hr0, hm0, hD, s1, s2, s3⟩ := id h
  have hltw : ∀ q, v.ownBlock = some q → q < w.heap.size := fun q hq => (hr0.lt q hq).2
  have hgw := hB0.lt
  have hB := hB0.below hbW hgw
  have hr := own_below hr0 hbW hltw
  have hm := map_chg hm0 (Chg.of_below (S := fun _ => False) hbW) (fun h => h)
  clear hB0 hr0 hm0
  have hgW : w.heap.size < W.heap.size := by omega
  have hg := hB.lt
  have hc0 := hB.cell 0
  have hc1 := hB.cell 1
  have hf0 := hB.free 0
  simp at hc0 hc1
  obtain ⟨l, hl⟩ := endsV_key (min x y) (max x y) (by simp [Lit.wf, IntKind.min, IntKind.max, IntKind.signed, IntKind.bits]; omega) (by simp [Lit.wf, IntKind.min, IntKind.max, IntKind.signed, IntKind.bits]; omega)
  have hC := hD _ _ l hl
  have KS : ∀ wx, Below W.heap.size W wx → wx.cell? ⟨g, 1, none⟩ = some (.map (some r)) ∧ wx.cell? ⟨w.heap.size, 0, none⟩ = some (.int .i64 x) ∧ wx.cell? ⟨w.heap.size, 1, none⟩ = some (.int .i64 y) ∧
      (Instr.lookup 49 (.map (some r)) (endsV (min x y) (max x y)) true).run Try.prog wx = .ok (.tuple #[.agg #[], .bool (C (min x y) (max x y))]) wx := fun wx hb =>
    ⟨(hb.cell (p := ⟨g, 1, none⟩) hg).trans hc1, (hb.cell (p := ⟨w.heap.size, 0, none⟩) (by simp [hW1])).trans hk0, (hb.cell (p := ⟨w.heap.size, 1, none⟩) (by simp [hW1])).trans hk1, net_look (map_chg hm (Chg.of_below (S := fun _ => False) hb) (fun h => h)) hl hC⟩
  have KS := Lib.hid KS
  have HM := Lib.hid hm
  have HD := Lib.hid hD
  have Hend := Lib.hid (ends_any x y)
  clear hk0 hk1 hm hl hC hD hc1
  by_cases hcut : C (min x y) (max x y) = true
  · have hv : putB C ps (x, y, s) = false := by unfold putB; simp [hcut]
    have hvl : putL C ps (x, y, s) = ps := by unfold putL; rw [hv]; rfl
    rw [hv, hvl]
    rw [hcut] at KS
    have HbW := Lib.hid hbW
    clear hr hB hv hvl hcut h s3 hc0 hf0 hk2 hW1 hbW
    go_enter Try.func27, Try.ntmps27
    go_wp2_with fail
    rw [← hW]
    clear hW
    go_region_held3 (fun wx => wx.cell? ⟨g, 1, none⟩ = some (.map (some r)) ∧ wx.cell? ⟨w.heap.size, 0, none⟩ = some (.int .i64 x) ∧ wx.cell? ⟨w.heap.size, 1, none⟩ = some (.int .i64 y) ∧ (Instr.lookup 49 (.map (some r)) (endsV (min x y) (max x y)) true).run Try.prog wx = .ok (.tuple #[.agg #[], .bool true]) wx)
      (first | exact KS.out _ (Below.refl _ _).drew | exact KS.out _ ((Below.refl _ _).drew.alloc (Nat.le_refl _) _) | exact KS.out _ HB2.out | exact KS.out _ (HB2.out.alloc HB2.out.size _))
      ((go_at_call 30; refine (Hend.out _ hx hy).mono ?_; rintro e w2 ⟨rfl, hb2⟩; have HB2 : Hid (Below W.heap.size W w2) := (Lib.hid (by first | exact below_undrew hb2 | exact ((Below.refl _ _).drew.alloc (Nat.le_refl _) _).trans (hb2.mono (by simp)))); clear hb2))
    all_goals go_wp2_with fail
    all_goals
      go_ret
      exact ⟨rfl, NetIs.same h0.out (HbW.out.trans (Below.mono (by repeat (first | exact HB2.out | exact Below.refl _ _ | refine Below.drew ?_ | refine below_new ?_ (Nat.le_refl _) _)) HbW.out.size))⟩
  · have hcut := Bool.eq_false_iff.2 hcut
    rw [hcut] at KS
    obtain ⟨A, c, rfl, hnc⟩ := own_slice hr
    by_cases hful : 2000 ≤ ps.length
    · have hv : putB C ps (x, y, s) = false := by unfold putB; simp; omega
      have hvl : putL C ps (x, y, s) = ps := by unfold putL; rw [hv]; rfl
      rw [hv, hvl]
      have d1 : decide (2000 ≤ ps.length) = true := by simpa using hful
      have d2 : (2000 : Int) ≤ (ps.length : Int) := by omega
      have KT : ∀ wx, Below W.heap.size W wx → wx.cell? ⟨g, 0, none⟩ = some (.slice A ps.length c) := fun wx hb => (hb.cell (p := ⟨g, 0, none⟩) hg).trans hc0
      have KT := Lib.hid KT
      have HbW := Lib.hid hbW
      clear hr hB hv hvl hcut h s3 hc0 hf0 hk2 hW1 hbW hful hnc
      go_enter Try.func27, Try.ntmps27
      go_wp2_with fail
      rw [← hW]
      clear hW
      go_region_held3 (fun wx => wx.cell? ⟨g, 1, none⟩ = some (.map (some r)) ∧ wx.cell? ⟨w.heap.size, 0, none⟩ = some (.int .i64 x) ∧ wx.cell? ⟨w.heap.size, 1, none⟩ = some (.int .i64 y) ∧ (Instr.lookup 49 (.map (some r)) (endsV (min x y) (max x y)) true).run Try.prog wx = .ok (.tuple #[.agg #[], .bool false]) wx)
        (first | exact KS.out _ (Below.refl _ _).drew | exact KS.out _ ((Below.refl _ _).drew.alloc (Nat.le_refl _) _) | exact KS.out _ HB2.out | exact KS.out _ (HB2.out.alloc HB2.out.size _))
        ((go_at_call 30; refine (Hend.out _ hx hy).mono ?_; rintro e w2 ⟨rfl, hb2⟩; have HB2 : Hid (Below W.heap.size W w2) := (Lib.hid (by first | exact below_undrew hb2 | exact ((Below.refl _ _).drew.alloc (Nat.le_refl _) _).trans (hb2.mono (by simp)))); clear hb2))
      all_goals
        first
        | have hc9 := KT.out _ (below_new HB2.out (Nat.le_refl _) (.cells #[] 55))
          have hd9 := KT.out _ HB2.out
          go_wp2_with fail
          go_ret
          exact ⟨rfl, NetIs.same h0.out (HbW.out.trans (Below.mono (by repeat (first | exact HB2.out | exact Below.refl _ _ | refine Below.drew ?_ | refine below_new ?_ (Nat.le_refl _) _)) HbW.out.size))⟩
    · have hv : putB C ps (x, y, s) = true := by unfold putB; simp [hcut]; omega
      have hvl : putL C ps (x, y, s) = ps ++ [(x, y, s)] := by unfold putL; rw [hv]; rfl
      rw [hv, hvl]
      have d1 : decide (2000 ≤ ps.length) = false := by simpa using hful
      have d2 : (ps.length : Int) < 2000 := by omega
      have hlen : ps.length < 2000 := by omega
      obtain ⟨i0, hi0, hz0, hz1, hz2⟩ := info_parts info_pk
      have KT : ∀ wx, Below W.heap.size W wx → wx.cell? ⟨g, 0, none⟩ = some (.slice A ps.length c) := fun wx hb => (hb.cell (p := ⟨g, 0, none⟩) hg).trans hc0
      have KF : ∀ wx, Below W.heap.size W wx → wx.frozen? ⟨g, 0, none⟩ = false := fun wx hb => (hb.frozen (p := ⟨g, 0, none⟩) hg).trans hf0
      have KP : ∀ wx, Below W.heap.size W wx → wx.cell? ⟨g, 0, none⟩ = some (.slice A ps.length c) ∧ wx.cell? ⟨w.heap.size, 0, none⟩ = some (.int .i64 x) ∧ wx.cell? ⟨w.heap.size, 1, none⟩ = some (.int .i64 y) ∧ wx.cell? ⟨w.heap.size, 2, none⟩ = some (.string s) := fun wx hb =>
        ⟨(hb.cell (p := ⟨g, 0, none⟩) hg).trans hc0, (KS.out wx hb).2.1, (KS.out wx hb).2.2.1, (hb.cell (p := ⟨w.heap.size, 2, none⟩) (by simp [hW1])).trans hk2⟩
      have KR : ∀ wx, Below W.heap.size W wx → wx.ownsRow 0 28 3 (.slice A ps.length c) ps.length (pkVs ps) := fun wx hb => own_below hr hb (fun q hq => (hr.lt q hq).2)
      have KE : ∀ wx g' c' w4, Below W.heap.size W wx → wx.grownBy w4 (Value.slice A ps.length c).ownBlock → w4.ownsRow 0 28 3 (.slice (some ⟨g', 0, none⟩) (ps.length + 1) c') (ps.length + 1) (pkVs ps ++ [.int .i64 x, .int .i64 y, .string s]) →
          ((Value.slice A ps.length c).ownBlock = some g' ∨ wx.heap.size ≤ g') → NetStep S g w (w4.setCell ⟨g, 0, none⟩ (.slice (some ⟨g', 0, none⟩) (ps.length + 1) c')) (ps ++ [(x, y, s)]) k C := fun wx g' c' w4 hb hgr hown hat =>
        netStep_row (hB.below hb hg) (own_below hr hb (fun q hq => (hr.lt q hq).2)) (map_chg HM.out (Chg.of_below (S := fun _ => False) hb) (fun h => h)) HD.out s1 s2 s3 (Chg.of_below (hbW.trans (hb.mono hbW.size))) hgr
          (by rw [List.length_append, pkVs_append]; exact hown) (fun b hbb => by
            obtain rfl : g' = b := by simpa [Value.ownBlock] using hbb
            exact hat)
      have KG : ∀ wx w4, Below W.heap.size W wx → wx.grownBy w4 (Value.slice A ps.length c).ownBlock → (w4.cell? ⟨g, 0, none⟩ = some (.slice A ps.length c) ∧ w4.cell? ⟨w.heap.size, 0, none⟩ = some (.int .i64 x) ∧ w4.cell? ⟨w.heap.size, 1, none⟩ = some (.int .i64 y) ∧ w4.cell? ⟨w.heap.size, 2, none⟩ = some (.string s)) ∧ w4.frozen? ⟨g, 0, none⟩ = false := fun wx w4 hb hgr => by
        have e1 := hgr.block g (Nat.lt_of_lt_of_le hg hb.size) (Ne.symm (own_ne_blk (own_below hr hb (fun q hq => (hr.lt q hq).2)) (hB.below hb hg) (by decide)))
        have e2 := hgr.block w.heap.size (by have := hb.size; omega) (fun e => Nat.lt_irrefl _ (hltw _ e.symm))
        obtain ⟨q1, q2, q3, q4⟩ := KP wx hb
        exact ⟨⟨(World.cell?_of_block (a := ⟨g, 0, none⟩) e1).trans q1, (World.cell?_of_block (a := ⟨w.heap.size, 0, none⟩) e2).trans q2, (World.cell?_of_block (a := ⟨w.heap.size, 1, none⟩) e2).trans q3, (World.cell?_of_block (a := ⟨w.heap.size, 2, none⟩) e2).trans q4⟩,
          (World.frozen?_of_block (a := ⟨g, 0, none⟩) e1).trans (KF wx hb)⟩
      have KG := Lib.hid KG
      have KT := Lib.hid KT; have KF := Lib.hid KF; have KP := Lib.hid KP; have KR := Lib.hid KR; have KE := Lib.hid KE
      have HbW := Lib.hid hbW
      clear hr hB hv hvl hcut s3 hltw hc0 hf0 hk2 hW1 hbW hful h
      go_enter Try.func27, Try.ntmps27
      go_wp2_with fail
      rw [← hW]
      clear hW
      go_region_held3 (fun wx => wx.cell? ⟨g, 1, none⟩ = some (.map (some r)) ∧ wx.cell? ⟨w.heap.size, 0, none⟩ = some (.int .i64 x) ∧ wx.cell? ⟨w.heap.size, 1, none⟩ = some (.int .i64 y) ∧ (Instr.lookup 49 (.map (some r)) (endsV (min x y) (max x y)) true).run Try.prog wx = .ok (.tuple #[.agg #[], .bool false]) wx)
        (first | exact KS.out _ (Below.refl _ _).drew | exact KS.out _ ((Below.refl _ _).drew.alloc (Nat.le_refl _) _) | exact KS.out _ HB2.out | exact KS.out _ (HB2.out.alloc HB2.out.size _))
        ((go_at_call 30; refine (Hend.out _ hx hy).mono ?_; rintro e w2 ⟨rfl, hb2⟩; have HB2 : Hid (Below W.heap.size W w2) := (Lib.hid (by first | exact below_undrew hb2 | exact ((Below.refl _ _).drew.alloc (Nat.le_refl _) _).trans (hb2.mono (by simp)))); clear hb2))
      all_goals
        have hc9 := KT.out _ (below_new HB2.out (Nat.le_refl _) (.cells #[] 55))
        have hd9 := KT.out _ HB2.out
        go_wp2_with fail
        refine wp_world (B := W.heap.size) (W := W) ?_ (by repeat (first | exact HB2.out | exact Below.refl _ _ | refine Below.drew ?_ | refine below_new ?_ (Nat.le_refl _) _))
        intro X hbX
        have HbX := Lib.hid hbX
        clear hc9 hd9 hbX HB2
        obtain ⟨q1, q2, q3, q4⟩ := KP.out X HbX.out
        have qg : g < X.heap.size := Nat.lt_of_lt_of_le hg HbX.out.size
        have qw : w.heap.size < X.heap.size := Nat.lt_of_lt_of_le hgW HbX.out.size
        go_region_law (
          (refine step_append_lies _ (by rfl) _ _ _ (by rfl) 0 28 i0 _ 3 32 Try.underlying39 hi0 hz0 hz1 hz2 rfl (by omega) _ _ _ (by rfl) (KR.out _ (HbX.out.alloc HbX.out.size _).drew) ⟨X.heap.size, 0, none⟩ 1 1 [.int .i64 x, .int .i64 y, .string s] (by rfl) (by rfl) (World.news_of_block (cs := #[.int .i64 x, .int .i64 y, .string s]) (t := 28) (fr := (0, 0)) (heap_alloc_new X _)) (by simp [Value.oneCell']) (by omega) (by simp only [maxLen]; omega) (by omega) (Nat.zero_le _) (X.heap.size + 1) (by simp) ?_; intro g' c' w4 hown4 hgr4 hat4 hlt4; have HO4 := Lib.hid hown4; have HA4 := Lib.hid hat4; have hG4 := KG.out _ _ (HbX.out.alloc HbX.out.size _).drew hgr4; have hf4 := hG4.2; obtain ⟨q5, q6, q7, q8⟩ := hG4.1; clear hown4 hat4 hG4 q1 q2 q3 q4))
        all_goals
          go_wp2_with fail
          go_ret
          exact ⟨rfl, KE.out _ g' c' w4 (HbX.out.alloc HbX.out.size _).drew hgr4 HO4.out (HA4.out.imp id (fun e => by rw [e]; simp))⟩
end Go.Proofs.Ytadhboioaacaeaa
