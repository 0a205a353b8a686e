/- The statements' book: lists of ints (printed by mkbook.py). -/
import Derived.Test.YtfkkcgdniepgoaaGreatCTableMergesMarksI
import Derived.Test.YtfkkcgdniepgoaaGreatCTableMergesBookG
import Derived.Deep.RegionHeld3
import Derived.Deep.RegionLaw
import Derived.BigRegion

namespace Go.Proofs.YtfkkcgdniepgoaaGreat
open Go.RowKit
set_option maxHeartbeats 4000000
set_option maxRecDepth 100000
set_option linter.unusedVariables false

theorem info_lI : (Tryz.prog.info? 48).map (fun i => (i.zero, i.size, i.bytes)) = some (some (.slice none 0 0), 1, 24) := by kernel_rfl
/-- the lists of texts that a book has, and the copies: rows tv and wv -/
structure KindI (w : World) (base : Nat) (tv wv : Value) (vs ws : List Value) (xss : List (List Value)) : Prop where
  rt : w.ownsRow base 48 1 tv vs.length vs
  rw : w.ownsRow base 48 1 wv ws.length ws
  ap : ∀ b, tv.ownBlock = some b → wv.ownBlock ≠ some b
  lv : Lists w base 3 1 vs xss
  lw : Lists w base 3 1 ws xss
  form : ∀ xs ∈ xss, ∃ ss : List Int, xs = intVs ss
  few : ∀ xs ∈ xss, xs.length ≤ 1000000
theorem KindI.nil (w : World) (base : Nat) : KindI w base (.slice none 0 0) (.slice none 0 0) [] [] [] :=
  ⟨World.ownsRow_nil _ _ _ _, World.ownsRow_nil _ _ _ _, fun b h => by simp [Value.ownBlock] at h, Lists.nil _ _ _ _, Lists.nil _ _ _ _, fun _ h => (by cases h), fun _ h => (by cases h)⟩
theorem KindI.below {w w' : World} {B base : Nat} {tv wv : Value} {vs ws : List Value} {xss : List (List Value)} (h : KindI w base tv wv vs ws xss) (hb : Below B w w') (hB : w.heap.size ≤ B) : KindI w' base tv wv vs ws xss :=
  ⟨own_below h.rt hb (fun q hq => Nat.lt_of_lt_of_le (h.rt.lt q hq).2 hB), own_below h.rw hb (fun q hq => Nat.lt_of_lt_of_le (h.rw.lt q hq).2 hB), h.ap, h.lv.below hb hB, h.lw.below hb hB, h.form, h.few⟩
theorem KindI.drewN {w : World} {base : Nat} {tv wv : Value} {vs ws : List Value} {xss : List (List Value)} (h : KindI w base tv wv vs ws xss) (k : Nat) : KindI (w.drewN k) base tv wv vs ws xss :=
  ⟨h.rt, h.rw, h.ap, h.lv.drewN k, h.lw.drewN k, h.form, h.few⟩
theorem bookInts_any (g base n : Nat) (cs : Array Value) (tv wv v : Value) (vs ws : List Value) (xss : List (List Value)) (xs : List Value) (w : World)
    (hB : BlkIs w g 40 cs) (h0 : cs[2]? = some tv) (h1 : cs[3]? = some wv) (hbs : base ≤ w.heap.size) (hK : KindI w base tv wv vs ws xss)
    (hv : w.ownsRow base 3 1 v n xs) (hap : ∀ (i : Nat) (u : Value) (b : Nat), vs[i]? = some u → v.ownBlock = some b → u.ownBlock ≠ some b) (hl : vs.length ≤ 200) (hx1 : ∃ ss : List Int, xs = intVs ss) (hn : n ≤ 1000000) :
    Calls Tryz.prog 18 #[.pointer (some ⟨g, 0, none⟩), v] w fun e w' => ∃ tv' wv' v2, e = .returned (.tuple #[]) ∧
      BlkIs w' g 40 ((cs.setIfInBounds 2 tv').setIfInBounds 3 wv') ∧ KindI w' base tv' wv' (vs ++ [v]) (ws ++ [v2]) (xss ++ [xs]) ∧ BelowBut base g w w' ∧ (∀ b, b < w.heap.size → b ≠ g → tv.ownBlock ≠ some b → wv.ownBlock ≠ some b → w'.heap[b]? = w.heap[b]?) ∧ (∀ b, v2.ownBlock = some b → w.heap.size ≤ b) := by
  obtain ⟨i0, hi0, hz0, hz1, hz2⟩ := info_parts info_lI
  obtain ⟨At, ct, rfl, hct⟩ := own_slice hK.rt
  obtain ⟨Av, cv, rfl, hcv⟩ := own_slice hv
  have hc0 : w.cell? ⟨g, 2, none⟩ = some (.slice At vs.length ct) := (hB.cell 2).trans h0
  have hc1 : w.cell? ⟨g, 3, none⟩ = some wv := (hB.cell 3).trans h1
  have hf0 := hB.free 2
  have hgl := hB.lt
  have hne : (Value.slice At vs.length ct).ownBlock ≠ some g := own_ne_blk hK.rt hB (by decide)
  have hl1 : (vs.length : Int) < 250 := by omega
  have HB := Lib.hid hB; have HK := Lib.hid hK; have Hv := Lib.hid hv; have H0 := Lib.hid h0; have H1 := Lib.hid h1; have Hap := Lib.hid hap; have Hx1 := Lib.hid hx1; have HxO : Hid (∀ u ∈ xs, u.oneCell' = true) := Lib.hid (by obtain ⟨ss, rfl⟩ := hx1; exact intVs_one)
  clear hB hK hv h0 h1 hap hx1
  go_enter Tryz.func18, Tryz.ntmps18
  go_wp2_with (at_builtin; refine wpList_append_lies _ rfl (.tmp 14) (.tmp 16) _ rfl base 48 i0 _ 1 24 Tryz.underlying34 hi0 hz0 hz1 hz2 rfl (by omega) (.slice At vs.length ct) vs.length vs rfl (HK.out.rt.alloc _) ⟨w.heap.size, 0, none⟩ 1 1 [.slice Av n cv] rfl rfl (World.news_of_block (cs := #[.slice Av n cv]) (heap_alloc_new w _)) (by simp [Value.oneCell']) (by omega) (by simp only [maxLen]; omega) (by omega) (by simp <;> omega) (w.heap.size + 1) (by simp) ?_; intro gt cp w1 hown1 hgrow1 hat1 hlt1; have hB1 := (HB.out.alloc (.cells #[.slice Av n cv] 48)).grown hgrow1 (Ne.symm hne); have hd0 := hB1.cell 2; have hd1 := hB1.cell 3; have hdf := hB1.free 2; have hdg := hB1.lt; rw [H0.out] at hd0; rw [H1.out] at hd1)
  obtain ⟨tv', htv'⟩ : ∃ v', Value.slice (some ⟨gt, 0, none⟩) (vs.length + 1) cp = v' := ⟨_, rfl⟩
  obtain ⟨v, hv'⟩ : ∃ v', Value.slice Av n cv = v' := ⟨_, rfl⟩
  rw [hv'] at hown1 hgrow1 Hv Hap ⊢
  rw [htv'] at hown1 ⊢
  obtain ⟨W, hW⟩ : ∃ W, w1.setCell ⟨g, 2, none⟩ tv' = W := ⟨_, rfl⟩
  rw [hW]
  have hwv1 := (HK.out.rw.alloc (.cells #[v] 48)).kept hgrow1 (by
    cases hq : wv.ownBlock with
    | none => exact .inl rfl
    | some q => exact .inr (fun e => HK.out.ap q e.symm hq))
  have hls1 := (HK.out.lv.alloc (.cells #[v] 48)).keptRow (HK.out.rt.alloc (.cells #[v] 48)) (by decide) hgrow1
  have hls2 := (HK.out.lw.alloc (.cells #[v] 48)).keptRow (HK.out.rt.alloc (.cells #[v] 48)) (by decide) hgrow1
  have hv1 := own_grown (Hv.out.alloc (.cells #[v] 48)) hgrow1 (fun q hq hq2 => rows_apart (Hv.out.alloc (.cells #[v] 48)) (HK.out.rt.alloc (.cells #[v] 48)) (by decide) q hq hq2)
  have hBW : BlkIs W g 40 (cs.setIfInBounds 2 tv') := by rw [← hW]; exact hB1.put 2 _
  have htW : W.ownsRow base 48 1 tv' (vs.length + 1) (vs ++ [v]) := by rw [← hW]; exact own_far hown1 (own_ne_blk hown1 hB1 (by decide)) _
  have hwW : W.ownsRow base 48 1 wv ws.length ws := by rw [← hW]; exact own_far hwv1 (own_ne_blk hwv1 hB1 (by decide)) _
  have hlW : Lists W base 3 1 vs xss := by rw [← hW]; exact hls1.farB hB1 (by decide) _
  have hmW : Lists W base 3 1 ws xss := by rw [← hW]; exact hls2.farB hB1 (by decide) _
  have hvW : W.ownsRow base 3 1 v n xs := by rw [← hW]; exact own_far hv1 (own_ne_blk hv1 hB1 (by decide)) _
  have hapW : ∀ b, tv'.ownBlock = some b → wv.ownBlock ≠ some b := fun b hb hb2 => by
    rcases hat1 with h | h
    · rw [← htv'] at hb
      simp [Value.ownBlock] at hb
      rw [hb] at h
      exact HK.out.ap b h hb2
    · rw [← htv'] at hb
      simp [Value.ownBlock] at hb
      have := (HK.out.rw.lt b hb2).2
      omega
  have hbW : BelowBut base g w W := by
    rw [← hW]
    exact (below_but (((Below.refl _ _).alloc hbs _).grown hgrow1 (by simp <;> omega) (fun q hq => (HK.out.rt.lt q hq).1))).trans (BelowBut.set _ _)
  have hszW : W.heap.size = w1.heap.size := by rw [← hW]; simp [World.setCell]
  have hsW : ∀ b, b < w.heap.size → b ≠ g → (Value.slice At vs.length ct).ownBlock ≠ some b → W.heap[b]? = w.heap[b]? := fun b hb1 hb2 hb3 => by
    rw [← hW]
    exact (Below.heap_setCell w1 ⟨g, 2, none⟩ tv' b hb2).trans ((hgrow1.block b (by simp; omega) (fun e => hb3 e.symm)).trans (Below.heap_alloc w _ b hb1))
  have hc1W : W.cell? ⟨g, 3, none⟩ = some wv := by
    rw [hBW.cell 3, Array.getElem?_setIfInBounds_ne (by decide)]
    exact H1.out
  have hgW := hBW.lt
  have hbsW : base ≤ W.heap.size := Nat.le_trans hbs hbW.size
  have hSW : Shows W 1 v xs := Shows.own hvW
  have HBW := Lib.hid hBW; have HtW := Lib.hid htW; have HwW := Lib.hid hwW; have HlW := Lib.hid (hlW.snoc hvW Hap.out); have HmW := Lib.hid hmW; have HvW := Lib.hid hvW; have HapW := Lib.hid hapW; have HbW := Lib.hid hbW; have HSW := Lib.hid hSW; have HsW := Lib.hid hsW
  have hwl : ws.length ≤ 200 := by have h1 := HK.out.lv.len; have h2 := HK.out.lw.len; omega
  have hxn : xs.length = n := by have := Hv.out.1; omega
  have Hxn := Lib.hid hxn; have Hv' := Lib.hid hv'
  clear hown1 hgrow1 hB1 hd0 hd1 hdf hdg hwv1 hls1 hls2 hv1 hBW htW hwW hlW hmW hvW hapW hbW hSW hszW hsW hW htv' hv' hat1 hc0 hc1 hf0 hxn
  go_wp2_with fail
  go_region_law (first
    | ((refine step_append_lies _ (by rfl) (.tmp 24) (.tmp 27) _ (by rfl) base 48 i0 _ 1 24 Tryz.underlying34 hi0 hz0 hz1 hz2 rfl (by omega) wv ws.length ws (by simp [Act.eval, Act.put]) (by exact HW2.out.alloc _) ⟨w2.heap.size, 0, none⟩ 1 1 [.slice A2 n c2] (by simp [Act.eval, Act.put]) (by rfl) (World.news_of_block (cs := #[.slice A2 n c2]) (heap_alloc_new w2 _)) (by simp [Value.oneCell']) (by omega) (by simp only [maxLen]; omega) (by omega) (by have := hbb2.size; simp <;> omega) _ rfl ?_; intro g3 c3 w3 hown3 hgrow3 hat3 hlt3; have HB3 := Lib.hid ((HB2.out.alloc _).grown hgrow3 (fun e => own_ne_blk HwW.out HBW.out (by decide) e.symm)); have hq1 := HB3.out.cell 3; have hqf := HB3.out.free 3; have hql := HB3.out.lt; rw [Array.getElem?_setIfInBounds_ne (by decide), H1.out] at hq1))
    | (go_simp; go_at_call 50; (refine (copyInts_any n v xs _ (by first | exact HSW.out.drew | exact HSW.out) Hxn.out (by omega) HxO.out).mono ?_; rintro e w2 ⟨v2, rfl, hv2, hb2⟩; obtain ⟨A2, c2, rfl, hcc2⟩ := own_slice hv2; have hbb2 : Below W.heap.size W w2 := (below_undrew hb2); have hg2 : g < w2.heap.size := Nat.lt_of_lt_of_le hgW hbb2.size; have HV2 := Lib.hid hv2; have HB2 := Lib.hid (HBW.out.below hbb2 hgW); have HW2 := Lib.hid (own_below HwW.out hbb2 (fun q hq => (HwW.out.lt q hq).2)); have hc2 : w2.cell? ⟨g, 3, none⟩ = some wv := ((hbb2.cell (p := ⟨g, 3, none⟩) hgW).trans hc1W); clear hv2 hb2)))
  all_goals
    go_wp2_with fail
    go_end0
    rw [Hv'.out]
    have hbb := HbW.out
    have hl2 := ((HlW.out.below hbb2 (Nat.le_refl _)).alloc (.cells #[.slice A2 n c2] 48)).keptRow (HW2.out.alloc (.cells #[.slice A2 n c2] 48)) (by decide) hgrow3
    have hv2f : ∀ (i : Nat) (u : Value) (b : Nat), ws[i]? = some u → (Value.slice A2 n c2).ownBlock = some b → u.ownBlock ≠ some b := fun i u b hu hb hb2 => by
      have h1 := (HV2.out.lt b hb).1
      have h2 := (HmW.out.lt hu hb2).2
      exact absurd (Nat.lt_of_lt_of_le h2 h1) (Nat.lt_irrefl _)
    have hm2 := (((HmW.out.below hbb2 (Nat.le_refl _)).snoc (own_base HV2.out (by exact hbsW)) hv2f).alloc (.cells #[.slice A2 n c2] 48)).keptRow (HW2.out.alloc (.cells #[.slice A2 n c2] 48)) (by decide) hgrow3
    have ht2 := ((own_below HtW.out hbb2 (fun q hq => (HtW.out.lt q hq).2)).alloc (.cells #[.slice A2 n c2] 48)).kept hgrow3 (by
      cases hq : tv'.ownBlock with
      | none => exact .inl rfl
      | some q => exact .inr (fun e => HapW.out q hq e.symm))
    refine ⟨tv', _, .slice A2 n c2, rfl, HB3.out.put 3 _, ⟨by rw [List.length_append]; exact own_far ht2 (own_ne_blk ht2 HB3.out (by decide)) _, by rw [List.length_append]; exact own_far hown3 (own_ne_blk hown3 HB3.out (by decide)) _, fun b hb hb2 => ?_, hl2.farB HB3.out (by decide) _, hm2.farB HB3.out (by decide) _, fun ys hy => ?_, fun ys hy => ?_⟩, ?_, fun b hb1 hb2 hb3 hb4 => ?_, fun b hb => Nat.le_trans hbb.size (HV2.out.lt b hb).1⟩
    · simp [Value.ownBlock] at hb2
      subst hb2
      rcases hat3 with h | h
      · exact HapW.out _ hb h
      · have h1 := (HtW.out.lt _ hb).2
        have h2 := hbb2.size
        rw [h] at h1
        simp at h1
        omega
    · rcases List.mem_append.1 hy with h | h
      · exact HK.out.form ys h
      · simp at h; subst h; exact Hx1.out
    · rcases List.mem_append.1 hy with h | h
      · exact HK.out.few ys h
      · simp at h; subst h; rw [Hxn.out]; exact hn
    · exact hbb.trans ((below_but (((hbb2.mono hbsW).alloc (Nat.le_trans hbsW hbb2.size) _).grown hgrow3 (by have := hbb2.size; simp <;> omega) (fun q hq => (HwW.out.lt q hq).1))).trans (BelowBut.set _ _))
    · have hWb : b < W.heap.size := Nat.lt_of_lt_of_le hb1 hbb.size
      exact (Below.heap_setCell w3 ⟨g, 3, none⟩ _ b hb2).trans ((hgrow3.block b (by have := hbb2.size; simp; omega) (fun e => hb4 e.symm)).trans ((Below.heap_alloc w2 _ b (by have := hbb2.size; omega)).trans ((hbb2.block b hWb).trans (HsW.out b hb1 hb2 hb3))))
end Go.Proofs.YtfkkcgdniepgoaaGreat

/- The statements' book: lists of ints (printed by mkbook.py). -/
namespace Go.Proofs.YtfkkcgdniepgoaaGreat
open Go.RowKit
set_option maxHeartbeats 4000000
set_option maxRecDepth 100000
set_option linter.unusedVariables false

theorem sameInts_shows (v u : Value) (xs : List Value) (w : World) (h1 : Shows w 1 v xs) (h2 : Shows w 1 u xs) (hf : ∃ ss : List Int, xs = intVs ss) (hn : xs.length ≤ 1000000000) :
    Calls Tryz.prog 24 #[v, u] w fun e w' => e = .returned (.bool true) ∧ ∃ k, w' = w.drewN k := by
  obtain ⟨ss, rfl⟩ := hf
  obtain ⟨A, n, c, rfl, hr, hc⟩ := h1
  obtain ⟨D, m, d, rfl, hr2, hc2⟩ := h2
  have hl := hr.len
  have hl2 := hr2.len
  have hs := sameInts_any w.heap.size w.heap.size n m c d A D ss ss w hr hr2 (by omega) (by omega)
  rw [decide_eq_true (rfl : ss = ss)] at hs
  exact hs
theorem stillInts_any (g base : Nat) (cs : Array Value) (tv wv : Value) (vs ws : List Value) (xss : List (List Value)) (w : World)
    (hB : BlkIs w g 40 cs) (h0 : cs[2]? = some tv) (h1 : cs[3]? = some wv) (hK : KindI w base tv wv vs ws xss) (hl : vs.length ≤ 250) :
    Calls Tryz.prog 53 #[.pointer (some ⟨g, 0, none⟩)] w fun e w' => e = .returned (.bool true) ∧ ∃ k, w' = w.drewN k := by
  obtain ⟨At, ct, rfl, hct⟩ := own_slice hK.rt
  obtain ⟨Aw, cw, rfl, hcw⟩ := own_slice hK.rw
  have hc0 : w.cell? ⟨g, 2, none⟩ = some (.slice At vs.length ct) := (hB.cell 2).trans h0
  have hc1 : w.cell? ⟨g, 3, none⟩ = some (.slice Aw ws.length cw) := (hB.cell 3).trans h1
  have hww : ws.length = vs.length := by have h1 := hK.lv.len; have h2 := hK.lw.len; omega
  have Hw := Lib.hid hww; have HK := Lib.hid hK
  clear hB h0 h1 hK hww
  obtain ⟨N, hN⟩ : ∃ N, vs.length = N := ⟨_, rfl⟩
  rw [hN] at hc0 Hw hl hct
  rw [Hw.out] at hc1
  have HN := Lib.hid hN; clear hN
  go_enter Tryz.func53, Tryz.ntmps53
  go_wp2_with fail
  go_loopw [3] (fun i wr => ∃ k q : Nat, k ≤ N ∧ i = .int .i64 k ∧ wr = w.drewN q) (fun i _ => N - (intOf i).toNat)
  case atStart => exact ⟨0, 0, Nat.zero_le _, rfl, rfl⟩
  case round =>
    obtain ⟨k, q, hk, rfl, rfl⟩ := hrel
    by_cases hlt : k < N
    · obtain ⟨ad, u, hA, had, hu, hcell⟩ := (SlR.own HK.out.rt).get (k := k) (by rw [HN.out]; exact hlt)
      obtain ⟨ad2, u2, hA2, had2, hu2, hcell2⟩ := (SlR.own HK.out.rw).get (k := k) (by rw [Hw.out]; exact hlt)
      subst hA hA2
      obtain ⟨xs, hx⟩ := get_of_len HK.out.lv.len hu
      have hs1 := HK.out.lv.shows hu hx
      have hs2 := HK.out.lw.shows hu2 hx
      have hfm := HK.out.form xs (List.mem_of_getElem? hx)
      have hfw := HK.out.few xs (List.mem_of_getElem? hx)
      have i1 : (k : Int) < (N : Int) := by omega
      have i0 : 0 ≤ (k : Int) := by omega
      obtain ⟨B1, n1, c1, rfl, _, _⟩ := hs1.form
      obtain ⟨B2, n2, c2, rfl, _, _⟩ := hs2.form
      have Hs1 := Lib.hid hs1; have Hs2 := Lib.hid hs2; have Hfm := Lib.hid hfm; have hfw2 : xs.length ≤ 1000000000 := by omega
      clear hs1 hs2 hfm hu hu2 hx had had2
      go_wp2_with fail
      go_region_held3 (fun wx => wx.cell? ⟨g, 2, none⟩ = some (.slice (some ad) N ct) ∧ wx.cell? ⟨g, 3, none⟩ = some (.slice (some ad2) N cw) ∧ wx.cell? (ad.add k) = some (.slice B1 n1 c1) ∧ wx.cell? (ad2.add k) = some (.slice B2 n2 c2))
        (first | go_keep | exact ⟨hc0, hc1, hcell, hcell2⟩)
        ((go_at_call 24; refine (sameInts_shows _ _ xs _ (by first | exact (Hs1.out.drewN q).drew | exact (Hs1.out.drewN _)) (by first | exact (Hs2.out.drewN q).drew | exact (Hs2.out.drewN _)) Hfm.out hfw2).mono ?_; rintro e w2 ⟨rfl, k2, rfl⟩))
      go_wp2_with fail
      go_roundw
      case rel => exact ⟨k + 1, _, by omega, by go_num, rfl⟩
      case measure => simp [intOf]; omega
    · obtain rfl : k = N := by omega
      have hd : decide (k < k) = false := by simp
      go_wp2_with fail
      go_ret
      exact ⟨rfl, q, rfl⟩
end Go.Proofs.YtfkkcgdniepgoaaGreat
