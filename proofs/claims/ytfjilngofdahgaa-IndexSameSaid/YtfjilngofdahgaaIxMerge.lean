/- chapter 14: Merge, walked. -/
import Derived.Test.YtfjilngofdahgaaIxAlive
namespace Go.Proofs.Ytfjilngofdahgaa
open Go.RowKit
set_option maxHeartbeats 4000000
set_option maxRecDepth 100000
set_option linter.unusedVariables false

def mergeX (s : Tb × List Lv) : Tb × List Lv := if (cutsX s.2).sum ≤ 1 ∧ s.1.length = 0 then s else ([], [[allX s.1 s.2]])
theorem sum_take (ls : List Int) {q : Nat} {z : Int} (h : ls[q]? = some z) : (ls.take (q + 1)).sum = (ls.take q).sum + z := by
  rw [take_snocE h, List.sum_append]; simp
theorem sum_few (ls : List Int) (B : Nat) (h : ∀ x ∈ ls, 0 ≤ x ∧ x < (B : Int)) : 0 ≤ ls.sum ∧ ls.sum ≤ (ls.length * B : Nat) := by
  induction ls with
  | nil => simp
  | cons x xs ih =>
    have h1 := h x (List.mem_cons_self ..)
    have h2 := ih (fun y hy => h y (List.mem_cons_of_mem _ hy))
    simp only [List.sum_cons, List.length_cons, Nat.add_mul, Nat.one_mul]
    omega
theorem IxAt.clear {w : World} {S : Nat → Prop} {g T T' : Nat} {room most : Int} {mem : Tb} {lv : List Lv} {r : Option Nat} {v : Value} {vs : List Value} (h : IxAt w S g room most (mem, lv) T r v vs) (ht : TabIs w 0 T' none []) (hT : ¬ S T') :
    IxAt ((w.setCell ⟨g, 2, none⟩ (.pointer (some ⟨T', 0, none⟩))).setCell ⟨g, 3, none⟩ (.slice none 0 0)) (fun b => b = g ∨ b = T') g room most ([], []) T' none (.slice none 0 0) [] ∧ Chg S w ((w.setCell ⟨g, 2, none⟩ (.pointer (some ⟨T', 0, none⟩))).setCell ⟨g, 3, none⟩ (.slice none 0 0)) := by
  have hc : Chg (fun b => b = g) w ((w.setCell ⟨g, 2, none⟩ (.pointer (some ⟨T', 0, none⟩))).setCell ⟨g, 3, none⟩ (.slice none 0 0)) := ((Chg.refl (fun b => b = g) w).set (a := ⟨g, 2, none⟩) (fun _ => rfl) _).set (a := ⟨g, 3, none⟩) (fun _ => rfl) _
  have hTl : T' < w.heap.size := by obtain ⟨vt, k1, _⟩ := ht; exact k1.lt
  have hb2 : BlkIs ((w.setCell ⟨g, 2, none⟩ (.pointer (some ⟨T', 0, none⟩))).setCell ⟨g, 3, none⟩ (.slice none 0 0)) g 55 #[.int .i64 room, .int .i64 most, .pointer (some ⟨T', 0, none⟩), .slice none 0 0] := by
    have := (h.blk.put 2 (.pointer (some ⟨T', 0, none⟩))).put 3 (.slice none 0 0)
    simpa using this
  refine ⟨⟨hb2, ht.chg hc (fun e => hT (by rw [e]; exact h.sg)) (fun b hb => by cases hb), World.ownsRow_nil _ _ _ _, fun i v' l h1 h2 => by simp at h1, fun i j v1 v2 b h1 => by simp at h1, .inl rfl, .inr rfl, fun b hb => (by cases hb), fun b hb => (by cases hb), fun b hb => ?_⟩, hc.more (fun k _ hk => by rw [hk]; exact h.sg)⟩
  have hsz := hc.size
  rcases hb with rfl | rfl
  · exact Nat.lt_of_lt_of_le h.blk.lt hsz
  · exact Nat.lt_of_lt_of_le hTl hsz

theorem mergeX_any (S : Nat → Prop) (g : Nat) (room most : Int) (s : Tb × List Lv) (w : World) (h : IxIs w S g room most s) (hw : wX s ≤ 800000) :
    Calls Try.prog 17 #[.pointer (some ⟨g, 0, none⟩)] w fun e w' => (∃ b, e = .returned (.bool b)) ∧ IxStep S g room most w w' (mergeX s) := by
  obtain ⟨mem, lv⟩ := s
  have hlev := levelsX_any S g room most (mem, lv) w h (by omega)
  have hw2 := hw
  rw [wX_eq] at hw2
  dsimp only at hw2
  have hcx := cuts_in lv (B := 900000) (by omega) (fun l hl => by
    obtain ⟨k, hk⟩ := List.getElem?_of_mem hl
    have h1 := level_few hk
    have h2 := flat_len l
    omega)
  have hcl : (cutsX lv).length ≤ 900000 := by
    have a1 := cuts_le lv
    have a2 := flats_len lv
    omega
  have hsum : ∀ q, 0 ≤ ((cutsX lv).take q).sum ∧ ((cutsX lv).take q).sum ≤ 810000000000 := fun q => by
    have h1 := sum_few ((cutsX lv).take q) 900000 (fun x hx => hcx x (List.mem_of_mem_take hx))
    have h2 : ((cutsX lv).take q).length ≤ 900000 := by rw [List.length_take]; omega
    have h3 : ((cutsX lv).take q).length * 900000 ≤ 900000 * 900000 := Nat.mul_le_mul_right _ h2
    omega
  have Hl := Lib.hid hlev; have H := Lib.hid h; have Hcx := Lib.hid hcx; have Hsum := Lib.hid hsum; have Hw := Lib.hid hw
  clear hlev h hcx hsum hw hw2
  go_enter Try.func17, Try.ntmps17
  go_wp2_with fail
  refine Hl.out.mono ?_
  rintro e w1 ⟨u, rfl, hown, hb⟩
  obtain ⟨A, c, rfl, hnc⟩ := own_slice hown
  have Hi := Lib.hid (H.out.below hb)
  have B1 := Lib.hid hb
  have Hr := Lib.hid (SlR.own hown)
  obtain ⟨ls, hls⟩ : ∃ ls, cutsX lv = ls := ⟨_, rfl⟩
  obtain ⟨L, hL⟩ : ∃ L, ls.length = L := ⟨_, rfl⟩
  dsimp only at Hr hnc ⊢
  rw [hls] at Hr hcl hnc Hcx Hsum ⊢
  rw [hL] at Hr hcl hnc ⊢
  have Hls := Lib.hid hls; have HL := Lib.hid hL
  clear hown hb hls hL
  go_wp2_with fail
  go_loopw [3, 10] (fun t j wz => ∃ q : Nat, q ≤ L ∧ t = .int .i64 (ls.take q).sum ∧ j = .int .i64 (q : Int) ∧ wz = w1) (fun _ j _ => L - (intOf j).toNat)
  case atStart => exact ⟨0, Nat.zero_le _, by simp, rfl, rfl⟩
  case round =>
    obtain ⟨q, hq, rfl, rfl, rfl⟩ := hrel
    by_cases hql : q < L
    · obtain ⟨ad, v, hA, _, hx, hc⟩ := Hr.out.get hql
      obtain ⟨z, hz, hzv⟩ : ∃ z, ls[q]? = some z ∧ v = .int .i64 z := by
        rw [show (intVs ls)[q]? = (ls[q]?).map (fun z => Value.int .i64 z) from by unfold intVs; rw [List.getElem?_map]] at hx
        cases hzz : ls[q]? with
        | none => rw [hzz] at hx; cases hx
        | some z => rw [hzz] at hx; injection hx with hx; exact ⟨z, rfl, hx.symm⟩
      subst hzv hA
      have hst := sum_take ls hz
      have hb0 := Hsum.out q
      have hb1 := Hsum.out (q + 1)
      generalize (ls.take q).sum = t0 at hst hb0 ⊢
      generalize ht1 : (ls.take (q + 1)).sum = t1 at hst hb1
      have hp2 : wrap64 (t0 + z) = t1 := by unfold wrap64; omega
      have hql' : (q : Int) < (L : Int) := by omega
      have Ht1 := Lib.hid ht1
      clear hx hz hst ht1 hb0 hb1
      go_wp2_with fail
      go_roundw
      case rel => exact ⟨q + 1, by omega, by rw [Ht1.out, hp2], by go_num, trivial⟩
      case measure => simp [intOf] <;> omega
    · obtain rfl : q = L := by omega
      clear hql
      have hfull : ls.take q = ls := List.take_of_length_le (by have := HL.out; omega)
      rw [hfull]
      by_cases hone : ls.sum ≤ 1
      · have hmm := memX_any S g room most (mem, lv) _ Hi.out (by have := Hw.out; omega)
        have Hmm := Lib.hid hmm
        clear hmm
        by_cases hzero : mem.length = 0
        · have hmx : mergeX (mem, lv) = (mem, lv) := by unfold mergeX; rw [if_pos ⟨by rw [Hls.out]; exact hone, hzero⟩]
          have e0 : ((mem.length : Int) == 0) = true := by rw [beq_iff_eq]; omega
          have Hmx := Lib.hid hmx
          clear hmx hzero
          go_wp2_with fail
          refine Hmm.out.mono ?_
          rintro e w2 ⟨rfl, rfl⟩
          go_wp2_with fail
          go_ret
          refine ⟨⟨_, rfl⟩, ?_⟩
          rw [Hmx.out]
          exact IxStep.of_below H.out B1.out
        · have hmx : mergeX (mem, lv) = ([], [[allX mem lv]]) := by unfold mergeX; rw [if_neg (fun h => hzero h.2)]
          have e0 : ((mem.length : Int) == 0) = false := by rw [beq_eq_false_iff_ne]; omega
          have Hmx := Lib.hid hmx
          clear hmx hzero
          go_wp2_with fail
          refine Hmm.out.mono ?_
          rintro e w2 ⟨rfl, rfl⟩
          go_wp2_with fail
          refine (tabX_any S g room most (mem, lv) _ Hi.out (by have := Hw.out; omega)).mono ?_
          rintro e w2 ⟨r2, rfl, ht2, hr2, hb2⟩
          have hfew := allX_few (mem, lv) (by have := Hw.out; omega)
          have Hi2 := Lib.hid (Hi.out.below hb2)
          have B2 := Lib.hid (B1.out.trans (hb2.mono B1.out.size))
          dsimp only at ht2 hfew
          have hall := all_any 0 _ r2 (allX mem lv) w2 ht2 (by omega)
          have Hall := Lib.hid hall
          clear ht2 hr2 hb2 hfew hall
          go_wp2_with fail
          refine Hall.out.mono ?_
          rintro e w3 ⟨u, rfl, hown, hb3⟩
          have Hi3 := Lib.hid (Hi2.out.below hb3)
          have B3 := Lib.hid (B2.out.trans (hb3.mono B2.out.size))
          have HO := Lib.hid hown
          clear hown hb3
          go_wp2_with fail
          refine (new_any w3).mono ?_
          rintro e w4 ⟨rfl, ht4, hb4⟩
          obtain ⟨T3, r3, v3, vs3, X3⟩ := Hi3.out
          have hx4 := X3.below hb4
          obtain ⟨hn1, hn2⟩ := hx4.clear (ht4 0) (fun hs => by have := X3.lt _ hs; omega)
          have q2 := hx4.blk.cell 2; have q2f := hx4.blk.free 2; have qlt := hx4.blk.lt
          have q3 := hx4.blk.cell 3; have q3f := hx4.blk.free 3
          simp at q2 q3
          have N1 := Lib.hid hn1; have N2 := Lib.hid hn2
          have B4 := Lib.hid (B3.out.trans (hb4.mono B3.out.size))
          have HO4 := Lib.hid (own_below HO.out hb4 (fun q hq => (HO.out.lt q hq).2))
          clear ht4 hb4 hx4 hn1 hn2 X3
          go_wp2_with fail
          obtain ⟨w5, hw5⟩ : ∃ w5, (w4.setCell ⟨g, 2, none⟩ (.pointer (some ⟨w3.heap.size, 0, none⟩))).setCell ⟨g, 3, none⟩ (.slice none 0 0) = w5 := ⟨_, rfl⟩
          rw [hw5] at N1 N2
          (try rw [hw5])
          clear hw5 q2 q2f q3 q3f qlt
          have hS : ∀ b, S b → b < w.heap.size := by obtain ⟨T, r, v, vs, hx⟩ := H.out; exact hx.lt
          have hgS : S g := by obtain ⟨T, r, v, vs, hx⟩ := H.out; exact hx.sg
          have hu2 : ∀ b, u.ownBlock = some b → w.heap.size ≤ b ∧ b < w3.heap.size := fun b hb => ⟨by have := (HO.out.lt b hb).1; have := B2.out.size; omega, (HO.out.lt b hb).2⟩
          have hO5 := own_chg HO4.out N2.out (fun b hb hs => by have := hS b hs; have := (hu2 b hb).1; omega)
          have hput := putX_any (fun b => b = g ∨ b = w3.heap.size) g room most [] [] 0 u (allX mem lv) w5 ⟨_, _, _, _, N1.out⟩ (by simp [wLs]) (Nat.zero_le _) (own_mono hO5 (Nat.zero_le _)) (fun b hb hs => by
            have h1 := hu2 b hb
            have h2 := hS g hgS
            rcases hs with hs | hs <;> omega)
          have Hput := Lib.hid hput; have HS := Lib.hid hS; have HG := Lib.hid hgS; have HU := Lib.hid hu2
          clear hput hS hgS hu2 hO5
          refine Hput.out.mono ?_
          rintro e w6 ⟨rfl, S6, hi6, hc6, hs6⟩
          have C5 : Hid (Chg S w w5) := Lib.hid ((Chg.of_below B4.out).trans N2.out (fun k _ h => h))
          have C6 : Hid (Chg S w w6) := Lib.hid (C5.out.trans hc6 (fun k hk h => by
            rcases h with h | h
            · rw [h]; exact HG.out
            · have := B3.out.size; omega))
          have S6' : Hid (∀ b, S6 b → S b ∨ w.heap.size ≤ b) := Lib.hid (fun b hb => by
            rcases hs6 b hb with (h | h) | h | h
            · rw [h]; exact .inl HG.out
            · exact .inr (by have := B3.out.size; omega)
            · exact .inr (HU.out b h).1
            · exact .inr (Nat.le_trans C5.out.size h))
          have I6 := Lib.hid hi6
          clear hi6 hc6 hs6
          go_wp2_with fail
          go_ret
          refine ⟨⟨_, rfl⟩, ?_⟩
          rw [Hmx.out]
          exact ⟨S6, by have := I6.out; simpa [putX] using this, C6.out, S6'.out⟩
      · have hmx : mergeX (mem, lv) = ([], [[allX mem lv]]) := by unfold mergeX; rw [if_neg (by rw [Hls.out]; exact fun h => hone h.1)]
        have Hmx := Lib.hid hmx
        clear hmx
        go_wp2_with fail
        refine (tabX_any S g room most (mem, lv) _ Hi.out (by have := Hw.out; omega)).mono ?_
        rintro e w2 ⟨r2, rfl, ht2, hr2, hb2⟩
        have hfew := allX_few (mem, lv) (by have := Hw.out; omega)
        have Hi2 := Lib.hid (Hi.out.below hb2)
        have B2 := Lib.hid (B1.out.trans (hb2.mono B1.out.size))
        dsimp only at ht2 hfew
        have hall := all_any 0 _ r2 (allX mem lv) w2 ht2 (by omega)
        have Hall := Lib.hid hall
        clear ht2 hr2 hb2 hfew hall
        go_wp2_with fail
        refine Hall.out.mono ?_
        rintro e w3 ⟨u, rfl, hown, hb3⟩
        have Hi3 := Lib.hid (Hi2.out.below hb3)
        have B3 := Lib.hid (B2.out.trans (hb3.mono B2.out.size))
        have HO := Lib.hid hown
        clear hown hb3
        go_wp2_with fail
        refine (new_any w3).mono ?_
        rintro e w4 ⟨rfl, ht4, hb4⟩
        obtain ⟨T3, r3, v3, vs3, X3⟩ := Hi3.out
        have hx4 := X3.below hb4
        obtain ⟨hn1, hn2⟩ := hx4.clear (ht4 0) (fun hs => by have := X3.lt _ hs; omega)
        have q2 := hx4.blk.cell 2; have q2f := hx4.blk.free 2; have qlt := hx4.blk.lt
        have q3 := hx4.blk.cell 3; have q3f := hx4.blk.free 3
        simp at q2 q3
        have N1 := Lib.hid hn1; have N2 := Lib.hid hn2
        have B4 := Lib.hid (B3.out.trans (hb4.mono B3.out.size))
        have HO4 := Lib.hid (own_below HO.out hb4 (fun q hq => (HO.out.lt q hq).2))
        clear ht4 hb4 hx4 hn1 hn2 X3
        go_wp2_with fail
        obtain ⟨w5, hw5⟩ : ∃ w5, (w4.setCell ⟨g, 2, none⟩ (.pointer (some ⟨w3.heap.size, 0, none⟩))).setCell ⟨g, 3, none⟩ (.slice none 0 0) = w5 := ⟨_, rfl⟩
        rw [hw5] at N1 N2
        (try rw [hw5])
        clear hw5 q2 q2f q3 q3f qlt
        have hS : ∀ b, S b → b < w.heap.size := by obtain ⟨T, r, v, vs, hx⟩ := H.out; exact hx.lt
        have hgS : S g := by obtain ⟨T, r, v, vs, hx⟩ := H.out; exact hx.sg
        have hu2 : ∀ b, u.ownBlock = some b → w.heap.size ≤ b ∧ b < w3.heap.size := fun b hb => ⟨by have := (HO.out.lt b hb).1; have := B2.out.size; omega, (HO.out.lt b hb).2⟩
        have hO5 := own_chg HO4.out N2.out (fun b hb hs => by have := hS b hs; have := (hu2 b hb).1; omega)
        have hput := putX_any (fun b => b = g ∨ b = w3.heap.size) g room most [] [] 0 u (allX mem lv) w5 ⟨_, _, _, _, N1.out⟩ (by simp [wLs]) (Nat.zero_le _) (own_mono hO5 (Nat.zero_le _)) (fun b hb hs => by
          have h1 := hu2 b hb
          have h2 := hS g hgS
          rcases hs with hs | hs <;> omega)
        have Hput := Lib.hid hput; have HS := Lib.hid hS; have HG := Lib.hid hgS; have HU := Lib.hid hu2
        clear hput hS hgS hu2 hO5
        refine Hput.out.mono ?_
        rintro e w6 ⟨rfl, S6, hi6, hc6, hs6⟩
        have C5 : Hid (Chg S w w5) := Lib.hid ((Chg.of_below B4.out).trans N2.out (fun k _ h => h))
        have C6 : Hid (Chg S w w6) := Lib.hid (C5.out.trans hc6 (fun k hk h => by
          rcases h with h | h
          · rw [h]; exact HG.out
          · have := B3.out.size; omega))
        have S6' : Hid (∀ b, S6 b → S b ∨ w.heap.size ≤ b) := Lib.hid (fun b hb => by
          rcases hs6 b hb with (h | h) | h | h
          · rw [h]; exact .inl HG.out
          · exact .inr (by have := B3.out.size; omega)
          · exact .inr (HU.out b h).1
          · exact .inr (Nat.le_trans C5.out.size h))
        have I6 := Lib.hid hi6
        clear hi6 hc6 hs6
        go_wp2_with fail
        go_ret
        refine ⟨⟨_, rfl⟩, ?_⟩
        rw [Hmx.out]
        exact ⟨S6, by have := I6.out; simpa [putX] using this, C6.out, S6'.out⟩
end Go.Proofs.Ytfjilngofdahgaa
