/- chapter 14: Add of an index, walked. -/
import Derived.Test.YtfjilngofdahgaaCIndexBytesIxFlush2
import Derived.Deep.RegionHeld3

namespace Go.Proofs.Ytfjilngofdahgaa
open Go.RowKit
set_option maxHeartbeats 4000000
set_option maxRecDepth 100000
set_option linter.unusedVariables false

/-! ### plain -/
theorem addX_sorted (room most : Int) (s : Tb × List Lv) (e : En) (hs : SortedE s.1) : SortedE (addX room most s e).1 := by
  unfold addX
  split
  · exact hs
  · split
    · unfold flushX
      split
      · exact ins_sorted hs e
      · simp [SortedE]
    · exact ins_sorted hs e
theorem addsX_sorted (room most : Int) (s : Tb × List Lv) (es : List En) (hs : SortedE s.1) : SortedE (addsX room most s es).1 := by
  induction es generalizing s with
  | nil => exact hs
  | cons e es ih => exact ih _ (addX_sorted room most s e hs)
theorem take_snocE {α : Type} {l : List α} {k : Nat} {x : α} (h : l[k]? = some x) : l.take (k + 1) = l.take k ++ [x] := by
  obtain ⟨hk, hx⟩ := List.getElem?_eq_some_iff.1 h
  rw [List.take_succ_eq_append_getElem hk, hx]
theorem addX_has (room most : Int) {s : Tb × List Lv} {e : En} (h : hasX s e = true) : addX room most s e = s ∧ cntX s e = 0 := by
  unfold addX cntX
  rw [if_pos h, if_pos h]
  exact ⟨rfl, rfl⟩
theorem addX_full (room most : Int) {s : Tb × List Lv} {e : En} (h : hasX s e = false) (h1 : newE s.1 e = true) (h2 : room ≤ ((insE s.1 e).length : Int)) : addX room most s e = flushX most (insE s.1 e, s.2) ∧ cntX s e = 1 := by
  unfold addX cntX
  rw [if_neg (by rw [h]; simp), if_pos ⟨h1, h2⟩, if_neg (by rw [h]; simp), if_pos h1]
  exact ⟨rfl, rfl⟩
theorem addX_room (room most : Int) {s : Tb × List Lv} {e : En} (h : hasX s e = false) (h1 : newE s.1 e = true) (h2 : ¬ room ≤ ((insE s.1 e).length : Int)) : addX room most s e = (insE s.1 e, s.2) ∧ cntX s e = 1 := by
  unfold addX cntX
  rw [if_neg (by rw [h]; simp), if_neg (fun q => h2 q.2), if_neg (by rw [h]; simp), if_pos h1]
  exact ⟨rfl, rfl⟩
theorem addX_old (room most : Int) {s : Tb × List Lv} {e : En} (h : hasX s e = false) (h1 : newE s.1 e = false) : addX room most s e = (insE s.1 e, s.2) ∧ cntX s e = 0 := by
  unfold addX cntX
  rw [if_neg (by rw [h]; simp), if_neg (by rw [h1]; simp), if_neg (by rw [h]; simp), if_neg (by rw [h1]; simp)]
  exact ⟨rfl, rfl⟩
/-! ### the tab of an index -/
theorem IxAt.memStep {w w' : World} {S : Nat → Prop} {g T : Nat} {room most : Int} {mem mem' : Tb} {lv : List Lv} {r r' : Option Nat} {v : Value} {vs : List Value} (h : IxAt w S g room most (mem, lv) T r v vs) (ht : TabIs w' 0 T r' mem') (hst : TabStep w w' T r r') :
    IxAt w' (fun b => S b ∨ some b = r') g room most (mem', lv) T r' v vs ∧ Chg S w w' := by
  have hc := hst.chg
  have hC : ∀ i v' l, vs[i]? = some v' → lv[i]? = some l → LvIs w' (fun b => S b ∨ some b = r') r' v' l := fun i v' l h1 h2 => by
    obtain ⟨⟨us, ho, hu⟩, hb⟩ := h.lev i v' l h1 h2
    obtain ⟨vt, k1, k2, k3, _⟩ := h.tab
    refine ⟨us, own_chg ho hc (fun b hb e => ?_), fun j u t h3 h4 => ?_⟩
    · rcases e with e | e
      · exact own_ne_blk ho k1 (by decide) (by rw [hb, e])
      · exact own_type ho k2 (by decide) hb (k3.trans e.symm)
    · obtain ⟨m1, m2⟩ := hu j u t h3 h4
      refine ⟨own_chg m1 hc (fun b hb e => ?_), fun b hb => ⟨.inl (m2 b hb).1, fun e => ?_⟩⟩
      · rcases e with e | e
        · exact own_ne_blk m1 k1 (by decide) (by rw [hb, e])
        · exact (m2 b hb).2 e
      · rcases hst.row with h5 | ⟨gg, h5, h6⟩
        · exact (m2 b hb).2 (e.trans h5)
        · rw [h5] at e; injection e with e
          have := h.lt b (m2 b hb).1
          omega
  refine ⟨⟨h.blk.chg hc (fun e => ?_), ht, own_chg h.row hc (fun b hb e => ?_), fun i v' l h1 h2 => ⟨hC i v' l h1 h2, fun b hb => .inl ((h.lev i v' l h1 h2).2 b hb)⟩, h.two, .inl h.sg, .inl h.sT, fun b hb => .inr hb.symm, fun b hb => .inl (h.sv b hb), fun b hb => ?_⟩, hc.more (fun k _ hk => ?_)⟩
  · rcases e with e | e
    · exact h.dTg e.symm
    · exact h.drg e.symm
  · rcases e with e | e
    · exact h.dvT (by rw [hb, e])
    · exact h.dvr hb e.symm
  · rcases hb with hb | hb
    · exact Nat.lt_of_lt_of_le (h.lt b hb) hst.size
    · obtain ⟨vt, k1, k2, k3, _⟩ := ht
      exact (k2.lt b (k3.trans hb.symm)).2
  · rcases hk with rfl | hk
    · exact h.sT
    · exact h.sr k hk.symm

theorem addX_any (S : Nat → Prop) (g : Nat) (room most : Int) (s : Tb × List Lv) (A : Option Addr) (n c : Nat) (es : List En) (w : World) (h : IxIs w S g room most s) (hs : SortedE s.1) (hw : wX s + 3 * n ≤ 700000) (hm : 2 ≤ most)
    (hr : SlR w w.heap.size 3 A n (enVs es)) (hap : 0 < n → ∀ ad, A = some ad → ¬ S ad.block) :
    Calls Try.prog 10 #[.pointer (some ⟨g, 0, none⟩), .slice A n c] w fun e w' => e = .returned (.int .i64 (cntsX room most s es : Nat)) ∧ IxStep S g room most w w' (addsX room most s es) := by
  have hl : es.length = n := by have := hr.len; rw [enVs_length] at this; omega
  have H := Lib.hid h; have HS := Lib.hid hs; have Hr := Lib.hid hr; have Hap := Lib.hid hap; have Hl := Lib.hid hl
  have hgn : g < w.heap.size := by obtain ⟨T, r, v, vs, hx⟩ := h; exact hx.blk.lt
  clear h hs hr hap hl
  go_enter Try.func10, Try.ntmps10
  go_wp2_with fail
  go_loopw [5, 13] (fun o i wr => ∃ (k : Nat) (S2 : Nat → Prop), o = .int .i64 (cntsX room most s (es.take k) : Nat) ∧ k ≤ n ∧ i = .int .i64 (k : Int) ∧ IxIs wr S2 g room most (addsX room most s (es.take k)) ∧ Chg S w wr ∧ (∀ b, S2 b → S b ∨ w.heap.size ≤ b)) (fun _ i _ => n - (intOf i).toNat)
  case atStart => exact ⟨0, S, rfl, Nat.zero_le _, rfl, H.out, Chg.refl _ _, fun b hb => .inl hb⟩
  case round =>
    obtain ⟨k, S2, rfl, hk, rfl, hi, hc, hs2⟩ := hrel
    have hk0 : (0 : Int) ≤ (k : Int) := by omega
    have hcl := cnts_le room most s (es.take k)
    have htl : (es.take k).length ≤ k := by rw [List.length_take]; omega
    have hwk := adds_w room most hm s (es.take k)
    have HI := Lib.hid hi; have HC := Lib.hid hc; have HS2 := Lib.hid hs2
    clear hi hc hs2
    by_cases hlt : k < n
    · obtain ⟨ad, ⟨p0, p1, p2⟩, rfl, hadB, hpq, hat⟩ := Hr.out.en (k := k) (by omega)
      have hnS := Hap.out (by omega) ad rfl
      have hblk : wr.heap[ad.block]? = w.heap[ad.block]? := HC.out.block _ hadB hnS
      have hx : ∀ o, wr.cell? ⟨(ad.add (k * 3)).block, o, none⟩ = w.cell? ⟨(ad.add (k * 3)).block, o, none⟩ := fun o => World.cell?_of_block (w := w) (w' := wr) (a := ⟨(ad.add (k * 3)).block, o, none⟩) (by show wr.heap[(ad.add (k * 3)).block]? = _; rw [add_block]; exact hblk)
      have hc0 : wr.cell? (ad.add (k * 3)) = some (.int .i64 p0) := (World.cell?_of_block (w := w) (w' := wr) (a := ad.add (k * 3)) (by rw [add_block]; exact hblk)).trans hat.1
      have hc1 := (hx _).trans hat.2.1
      have hc2 := (hx _).trans hat.2.2
      dsimp only at hc0 hc1 hc2
      have hk1 : (k : Int) < (n : Int) := by omega
      have hsn : addsX room most s (es.take (k + 1)) = addX room most (addsX room most s (es.take k)) (p0, p1, p2) := by rw [take_snocE hpq, addsX_snoc]
      have hcn : cntsX room most s (es.take (k + 1)) = cntsX room most s (es.take k) + cntX (addsX room most s (es.take k)) (p0, p1, p2) := by rw [take_snocE hpq, cntsX_snoc]
      have hsk := addsX_sorted room most s (es.take k) HS.out
      generalize addsX room most s (es.take k) = q at hsn hcn hsk hwk HI
      obtain ⟨N, hN⟩ : ∃ N, cntsX room most s (es.take k) = N := ⟨_, rfl⟩
      rw [hN] at hcn hcl ⊢
      have Hsn := Lib.hid hsn; have Hcn := Lib.hid hcn; have Hsk := Lib.hid hsk
      clear hsn hcn hsk hN hblk hx hat hpq hnS
      obtain ⟨W1, hW1⟩ : ∃ W, wr.alloc (.cells #[.int .i64 p0, .int .i64 p1, .int .i64 p2] 27) = W := ⟨_, rfl⟩
      have hb1 : Below wr.heap.size wr W1 := by rw [← hW1]; exact (Below.refl _ _).alloc (Nat.le_refl _) _
      have hE1 : BlkIs W1 wr.heap.size 27 #[.int .i64 p0, .int .i64 p1, .int .i64 p2] := by rw [← hW1]; exact BlkIs.new _ _ _
      have hcE := hE1.cell; have hlE := hE1.lt
      have hhas := hasX_any S2 g room most q p0 p1 p2 W1 (HI.out.below hb1) (by omega)
      have HH := Lib.hid hhas; have E1 := Lib.hid hE1; have B1 := Lib.hid hb1
      clear hhas hE1 hb1
      go_wp2_with fail
      (try rw [hW1])
      refine HH.out.mono ?_
      rintro e w2 ⟨rfl, hb2⟩
      have B2 := Lib.hid (B1.out.trans (hb2.mono B1.out.size)); have E2 := Lib.hid (E1.out.below hb2 E1.out.lt)
      clear hb2 hcE hlE hW1
      cases hq : hasX q (p0, p1, p2) with
      | true =>
        obtain ⟨a1, a2⟩ := addX_has room most hq
        have A1 := Lib.hid a1; have A2 := Lib.hid a2
        clear hq a1 a2
        go_wp2_with fail
        go_roundw
        case rel => exact ⟨k + 1, S2, by rw [Hcn.out, A2.out, Nat.add_zero], by omega, by go_num, by rw [Hsn.out, A1.out]; exact HI.out.below B2.out, HC.out.under B2.out HC.out.size, HS2.out⟩
        case measure => simp [intOf]; omega
      | false =>
        obtain ⟨mem, lv⟩ := q
        obtain ⟨T, r, v, vs, hx⟩ := HI.out.below B2.out
        dsimp only at Hsk hwk Hsn Hcn
        have hmem : mem.length ≤ 700000 := by rw [wX_eq] at hwk; dsimp only at hwk; omega
        have k2 := hx.blk.cell 2; have k0 := hx.blk.cell 0
        simp at k2 k0
        have hgl := hx.blk.lt
        have hcE := E2.out.cell; have hlE := E2.out.lt
        obtain ⟨W3, hW3⟩ : ∃ W, w2.alloc (.cells #[.int .i64 p0, .int .i64 p1, .int .i64 p2] 27) = W := ⟨_, rfl⟩
        have hb3 : Below w2.heap.size w2 W3 := by rw [← hW3]; exact (Below.refl _ _).alloc (Nat.le_refl _) _
        have hrow : SlR W3 W3.heap.size 3 (some ⟨w2.heap.size, 0, none⟩) 1 (enVs [(p0, p1, p2)]) := by
          rw [← hW3]
          have := SlR.new w2 _ rfl 27 (n := 1) (size := 3) #[.int .i64 p0, .int .i64 p1, .int .i64 p2] rfl
          exact this.more (by simp)
        have hTl : T < w2.heap.size := by obtain ⟨vt, k1, _⟩ := hx.tab; exact k1.lt
        have hrl : ∀ b, r = some b → b < w2.heap.size := fun b hb => hx.lt b (hx.sr b hb)
        have hadd : ∀ wx, Below W3.heap.size W3 wx → _ := fun wx hb => add_any 0 T r mem [(p0, p1, p2)] (some ⟨w2.heap.size, 0, none⟩) 1 1 wx (hx.tab.below (hb3.trans (hb.mono hb3.size))) Hsk.out ((hrow.below hb).more hb.size) (fun _ ad had => by injection had with had; subst had; exact ⟨by show w2.heap.size ≠ T; omega, fun e => by have := hrl _ e.symm; simp at this⟩) (Nat.zero_le _) (by omega)
        have hins : addsE mem [(p0, p1, p2)] = insE mem (p0, p1, p2) := rfl
        have hil := ins_length mem (p0, p1, p2)
        rw [hins] at hadd
        have k2a := (hb3.cell (p := ⟨g, 2, none⟩) hgl).trans k2
        have hcEa := fun i => (hb3.cell (p := ⟨wr.heap.size, i, none⟩) hlE).trans (hcE i)
        have X := Lib.hid hx; have B3 := Lib.hid hb3
        cases hnew : newE mem (p0, p1, p2) with
        | true =>
          rw [if_pos hnew] at hil
          rw [show ((insE mem (p0, p1, p2)).length : Int) - (mem.length : Int) = 1 from by omega] at hadd
          have HA := Lib.hid hadd; have Hnew := Lib.hid hnew; have Hil := Lib.hid hil
          clear hadd hnew hil hrow hrl hins hx hb3
          go_wp2_with fail
          go_region_law (go_simp; go_at_call 15; refine (HA.out _ (by first | exact Below.refl _ _ | exact (Below.refl _ _).drew)).mono ?_; rintro x w5 ⟨rfl, r5, ht5, hst5⟩)
          all_goals
            have hst : TabStep w2 w5 T r r5 := by first | exact (TabStep.of_below B3.out).trans hst5 | exact (TabStep.of_below B3.out.drew).trans hst5
            obtain ⟨hm1, hm2⟩ := X.out.memStep ht5 hst
            have N1 := Lib.hid hm1
            have C5 : Hid (Chg S w w5) := Lib.hid ((HC.out.under B2.out HC.out.size).trans hm2 (fun b hb hs => by
              rcases HS2.out b hs with h | h
              · exact h
              · omega))
            have S5 : Hid (∀ b, (S2 b ∨ some b = r5) → S b ∨ w.heap.size ≤ b) := Lib.hid (fun b hb => by
              rcases hb with hb | hb
              · exact HS2.out b hb
              · rcases hst.row with h | ⟨gg, h, h2⟩
                · exact HS2.out b (X.out.sr b (h.symm.trans hb.symm))
                · rw [h] at hb; injection hb with hb
                  have h3 := HC.out.size; have h4 := B2.out.size
                  exact .inr (by omega))
            have hT0 : ∀ wx, Below w5.heap.size w5 wx → wx.cell? ⟨g, 2, none⟩ = some (.pointer (some ⟨T, 0, none⟩)) ∧ wx.cell? ⟨g, 0, none⟩ = some (.int .i64 room) := fun wx h => ⟨(hm1.below h).blk.cell 2, (hm1.below h).blk.cell 0⟩
            have HB := Below.refl w5.heap.size w5
            have hS := hT0 _ HB
            have HT := Lib.hid hT0
            clear hm1 hm2 hst hst5 ht5 hT0 k2 k0 k2a hcEa hcE
            have HLn := Lib.hid (fun wx (hb : Below w5.heap.size w5 wx) => len_any 0 T r5 (insE mem (p0, p1, p2)) wx (N1.out.below hb).tab (by have := Hil.out; omega))
            have hwi : wX (insE mem (p0, p1, p2), lv) ≤ 800000 := by have := Hil.out; rw [wX_eq] at hwk ⊢; dsimp only at *; omega
            by_cases hro : room ≤ ((insE mem (p0, p1, p2)).length : Int)
            · obtain ⟨a1, a2⟩ := addX_full room most hq Hnew.out hro
              have dro : decide (room ≤ ((insE mem (p0, p1, p2)).length : Int)) = true := decide_eq_true hro
              have A1 := Lib.hid a1; have A2 := Lib.hid a2
              have HF := Lib.hid (fun wx (hb : Below w5.heap.size w5 wx) => flushX_any _ g room most (insE mem (p0, p1, p2), lv) wx ⟨_, _, _, _, N1.out.below hb⟩ hwi hm)
              clear a1 a2 hro hq
              go_wp2_with fail
              go_region_held3 (fun wx => wx.cell? ⟨g, 2, none⟩ = some (.pointer (some ⟨T, 0, none⟩)) ∧ wx.cell? ⟨g, 0, none⟩ = some (.int .i64 room)) (first | exact hS | go_keep) ((first
                | (go_at_call 26; refine (HLn.out _ (by first | exact HB | exact below_drewN HB 1)).mono ?_; rintro e wx ⟨rfl, rfl⟩)))
              all_goals
                go_wp2_with fail
                refine (HF.out _ (by first | exact HB | exact below_drewN HB 1)).mono ?_
                rintro e w8 ⟨rfl, S8, hi8, hc8, hs8⟩
                have X8 := Lib.hid hi8
                have C8 : Hid (Chg S w w8) := Lib.hid ((C5.out.under (show Below w5.heap.size w5 _ by first | exact HB | exact below_drewN HB 1) C5.out.size).trans hc8 (fun b hb hs => by
                  rcases S5.out b hs with h | h
                  · exact h
                  · omega))
                have S8' : Hid (∀ b, S8 b → S b ∨ w.heap.size ≤ b) := Lib.hid (fun b hb => by
                  rcases hs8 b hb with h | h
                  · exact S5.out b h
                  · have := C5.out.size
                    exact .inr (Nat.le_trans this h))
                clear hc8 hs8
                go_wp2_with fail
                go_roundw
                case rel => exact ⟨k + 1, S8, by rw [Hcn.out, A2.out]; simp, by omega, by go_num, by rw [Hsn.out, A1.out]; exact X8.out, C8.out, S8'.out⟩
                case measure => simp [intOf] <;> omega
            · obtain ⟨a1, a2⟩ := addX_room room most hq Hnew.out hro
              have dro : decide (room ≤ ((insE mem (p0, p1, p2)).length : Int)) = false := decide_eq_false hro
              have A1 := Lib.hid a1; have A2 := Lib.hid a2
              clear a1 a2 hro hq
              go_wp2_with fail
              go_region_held3 (fun wx => wx.cell? ⟨g, 2, none⟩ = some (.pointer (some ⟨T, 0, none⟩)) ∧ wx.cell? ⟨g, 0, none⟩ = some (.int .i64 room)) (first | exact hS | go_keep) ((first
                | (go_at_call 26; refine (HLn.out _ (by first | exact HB | exact below_drewN HB 1)).mono ?_; rintro e wx ⟨rfl, rfl⟩)))
              all_goals
                have HB9 : Hid (Below w5.heap.size w5 _) := Lib.hid (by first | exact HB | exact below_drewN HB 1)
                go_wp2_with fail
                go_roundw
                case rel => exact ⟨k + 1, _, by rw [Hcn.out, A2.out]; simp, by omega, by go_num, by rw [Hsn.out, A1.out]; exact ⟨_, _, _, _, N1.out.below (by first | exact HB | exact below_drewN HB 1)⟩, C5.out.under (by first | exact HB | exact below_drewN HB 1) C5.out.size, S5.out⟩
                case measure => simp [intOf] <;> omega
        | false =>
          rw [if_neg (by rw [hnew]; simp)] at hil
          rw [show ((insE mem (p0, p1, p2)).length : Int) - (mem.length : Int) = 0 from by omega] at hadd
          obtain ⟨a1, a2⟩ := addX_old room most hq hnew
          have HA := Lib.hid hadd; have A1 := Lib.hid a1; have A2 := Lib.hid a2
          clear hadd hnew hil hrow hrl hins hx hb3 a1 a2 hq
          go_wp2_with fail
          go_region_law (go_simp; go_at_call 15; refine (HA.out _ (by first | exact Below.refl _ _ | exact (Below.refl _ _).drew)).mono ?_; rintro x w5 ⟨rfl, r5, ht5, hst5⟩)
          all_goals
            have hst : TabStep w2 w5 T r r5 := by first | exact (TabStep.of_below B3.out).trans hst5 | exact (TabStep.of_below B3.out.drew).trans hst5
            obtain ⟨hm1, hm2⟩ := X.out.memStep ht5 hst
            have N1 := Lib.hid hm1
            have C5 : Hid (Chg S w w5) := Lib.hid ((HC.out.under B2.out HC.out.size).trans hm2 (fun b hb hs => by
              rcases HS2.out b hs with h | h
              · exact h
              · omega))
            have S5 : Hid (∀ b, (S2 b ∨ some b = r5) → S b ∨ w.heap.size ≤ b) := Lib.hid (fun b hb => by
              rcases hb with hb | hb
              · exact HS2.out b hb
              · rcases hst.row with h | ⟨gg, h, h2⟩
                · exact HS2.out b (X.out.sr b (h.symm.trans hb.symm))
                · rw [h] at hb; injection hb with hb
                  have h3 := HC.out.size; have h4 := B2.out.size
                  exact .inr (by omega))
            have hT0 : ∀ wx, Below w5.heap.size w5 wx → wx.cell? ⟨g, 2, none⟩ = some (.pointer (some ⟨T, 0, none⟩)) ∧ wx.cell? ⟨g, 0, none⟩ = some (.int .i64 room) := fun wx h => ⟨(hm1.below h).blk.cell 2, (hm1.below h).blk.cell 0⟩
            have HB := Below.refl w5.heap.size w5
            have hS := hT0 _ HB
            have HT := Lib.hid hT0
            clear hm1 hm2 hst hst5 ht5 hT0 k2 k0 k2a hcEa hcE
            go_wp2_with fail
            go_quiet (fail)
            go_wp2_with fail
            go_roundw
            case rel => exact ⟨k + 1, _, by rw [Hcn.out, A2.out]; simp, by omega, by go_num, by rw [Hsn.out, A1.out]; exact ⟨_, _, _, _, N1.out.below (below_drewN HB _)⟩, C5.out.under (below_drewN HB _) C5.out.size, S5.out⟩
            case measure => simp [intOf] <;> omega
    · obtain rfl : k = n := by omega
      have dkk : decide (k < k) = false := by simp
      rw [List.take_of_length_le (by have := Hl.out; omega)] at HI ⊢
      clear hlt
      go_wp2_with fail
      go_ret
      exact ⟨rfl, S2, HI.out, HC.out, HS2.out⟩
end Go.Proofs.Ytfjilngofdahgaa
