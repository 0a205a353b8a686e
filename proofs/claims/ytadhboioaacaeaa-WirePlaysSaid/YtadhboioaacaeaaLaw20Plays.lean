/- chapter 20: WirePlays, walked. -/
import Derived.Test.YtadhboioaacaeaaTwo
import Derived.Deep.DeepCutAuto
import Derived.Deep.CutBlock
namespace Go.Proofs.Ytadhboioaacaeaa
open Go.RowKit
set_option maxHeartbeats 8000000
set_option maxRecDepth 1000000
set_option linter.unusedVariables false

theorem refNew (w : World) : RefIs (w.alloc (.cells #[.slice none 0 0, .slice none 0 0] 42)) (fun b => w.heap.size ≤ b) w.heap.size [] [] :=
  ⟨.slice none 0 0, .slice none 0 0, BlkIs.new w _ _, World.ownsRow_nil _ _ _ _, World.ownsRow_nil _ _ _ _, Nat.le_refl _, fun x hx => by simp [Value.ownBlock] at hx, fun x hx => by simp [Value.ownBlock] at hx⟩

/-- what holds ahead of a round and behind it -/
def At (W : World) (g gr k : Nat) (w : World) : Prop := ∃ ps cs C, Two W w (fun _ => False) g gr ps ps cs C k ∧ Agree C cs ∧ ps.length ≤ 2000 ∧ cs.length ≤ k

theorem Two.up {W w : World} {Av : Nat → Prop} {g gr k k' : Nat} {ps qs : List Pk} {cs : List (Int × Int)} {C : Int → Int → Bool} (h : Two W w Av g gr ps qs cs C k) (hk : k ≤ k') : Two W w Av g gr ps qs cs C k' := by
  obtain ⟨Sn, Sr, hn, rest⟩ := h
  obtain ⟨v, r, D, hb, hr, hm, more⟩ := hn
  exact ⟨Sn, Sr, ⟨v, r, D, hb, hr, hm.mono hk, more⟩, rest⟩
theorem at_mk {W w : World} {Av : Nat → Prop} {g gr k k' : Nat} {ps : List Pk} {cs : List (Int × Int)} {C : Int → Int → Bool} (h : Two W w Av g gr ps ps cs C k') (hk : k' ≤ k) (ha : Agree C cs) (hp : ps.length ≤ 2000) (hc : cs.length ≤ k) : At W g gr k w :=
  ⟨ps, cs, C, (h.up hk).avoid (Below.refl _ _) _ (fun _ h => h.elim), ha, hp, hc⟩
theorem rcut_len {cs : List (Int × Int)} {a b : Int} {on : Bool} {k : Nat} (h : cs.length ≤ k) : (rcutL cs a b on).length ≤ k + 1 := by
  have := rcL_le cs a b
  unfold rcutL
  split
  · rw [List.length_append]; simp; omega
  · omega

theorem made_pk (n : Nat) : (madeCells (Value.agg #[.int .i64 0, .int .i64 0, .string ByteArray.empty]).cells (n * 3)).toList = pkVs (List.replicate n (0, 0, ByteArray.empty)) := by
  apply List.ext_getElem?
  intro i
  by_cases hi : i < n * 3
  · have hq : (List.replicate n ((0, 0, ByteArray.empty) : Pk))[i / 3]? = some (0, 0, ByteArray.empty) := by rw [List.getElem?_replicate, if_pos (by omega)]
    have h := pkVs_get _ (i / 3) (i % 3) _ hq (Nat.mod_lt _ (by decide))
    rw [show i / 3 * 3 + i % 3 = i from by omega] at h
    rw [h]
    have h3 : i % 3 = 0 ∨ i % 3 = 1 ∨ i % 3 = 2 := by omega
    have e : (Value.agg #[.int .i64 0, .int .i64 0, .string ByteArray.empty]).cells = #[.int .i64 0, .int .i64 0, .string ByteArray.empty] := rfl
    rw [e]
    rcases h3 with h3 | h3 | h3 <;> simp [madeCells, hi, pkC, h3]
  · rw [List.getElem?_eq_none (by simp [size_madeCells]; omega), List.getElem?_eq_none (by rw [pkVs_length, List.length_replicate]; omega)]

theorem wirePlays_any (n c : Nat) (A : Option Addr) (l : List OpS) (W : World) (ha : SlR W W.heap.size 4 A n (opVs l)) (hok : ∀ o ∈ l, OpOk W W.heap.size o) (hn : n ≤ 9223372036854775807) :
    Calls Try.prog 5 #[.slice A n c] W fun e w' => e = .returned (.bool true) ∧ Below W.heap.size W w' := by
  have hl : l.length = n := by have := ha.len; rw [opVs_length] at this; omega
  have hli := light_any n c W.heap.size A l W ha (Nat.le_refl _) hok hn
  have Ha := Lib.hid ha; have Hok := Lib.hid hok; have Hl := Lib.hid hl; have Hli := Lib.hid hli
  clear ha hok hl hli
  go_enter Try.func5, Try.ntmps5
  go_wp2_with fail
  refine Hli.out.mono ?_
  rintro e w1 ⟨b, rfl, hlb, hb1⟩
  cases b with
  | false =>
    clear hlb
    go_wp2_with fail
    refine (alive20_any _).mono ?_
    rintro e w2 ⟨rfl, hb2⟩
    go_wp2_with fail
    go_ret
    exact ⟨rfl, hb1.trans (hb2.mono hb1.size)⟩
  | true =>
    obtain ⟨h80, hall⟩ := hlb rfl
    rw [Hl.out] at h80
    have Hall := Lib.hid hall; have Hb1 := Lib.hid hb1
    clear hlb hall hb1
    go_wp2_with fail
    refine (new_any _).mono ?_
    rintro e w2 ⟨rfl, hn2, hb2⟩
    have hs2 := hb2.size
    have hg2 := hn2.lt
    obtain ⟨g, hg⟩ : ∃ g, g = w1.heap.size + 1 := ⟨_, rfl⟩
    obtain ⟨gr, hgr⟩ : ∃ gr, gr = w2.heap.size := ⟨_, rfl⟩
    have hAt : At W g gr 0 (w2.alloc (.cells #[.slice none 0 0, .slice none 0 0] 42)) := by
      refine ⟨[], [], fun _ _ => false, ⟨fun b => w1.heap.size ≤ b ∧ b < w2.heap.size, fun b => b = gr, ?_, ?_, fun b hb => ⟨Nat.le_trans Hb1.out.size hb.1, by simp; omega⟩, fun b hb => ⟨by have := Hb1.out.size; omega, by simp; omega⟩, fun b hb e => by omega, fun b hb => hb.elim, ?_⟩, agree_none, by simp, by simp⟩
      · rw [hg]; exact (hn2.shrink.alloc _)
      · have := (refNew w2)
        rw [hgr]
        exact ⟨.slice none 0 0, .slice none 0 0, BlkIs.new w2 _ _, World.ownsRow_nil _ _ _ _, World.ownsRow_nil _ _ _ _, rfl, fun x hx => by simp [Value.ownBlock] at hx, fun x hx => by simp [Value.ownBlock] at hx⟩
      · exact below_new (Hb1.out.trans (hb2.mono Hb1.out.size)) (Nat.le_refl _) _
    have HAt := Lib.hid hAt
    clear hAt hn2 hb2 hs2 hg2
    go_wp2_with fail
    rw [← hg, ← hgr]
    generalize w2.alloc (.cells #[.slice none 0 0, .slice none 0 0] 42) = w3 at HAt ⊢
    clear hg hgr
    go_loopw [5] (fun i wr => ∃ k : Nat, k ≤ n ∧ i = .int .i64 k ∧ Hid (At W g gr k wr)) (fun i _ => n - (intOf i).toNat)
    case atStart => exact ⟨0, Nat.zero_le _, rfl, HAt⟩
    case round =>
      obtain ⟨k, hk, rfl, HK⟩ := hrel
      by_cases hlt : k < n
      · obtain ⟨ps, cs, C, hT, hAg, hpl, hcl⟩ := HK.out
        obtain ⟨o, ho⟩ : ∃ o, l[k]? = some o := ⟨_, List.getElem?_eq_getElem (by rw [Hl.out]; exact hlt)⟩
        have HokW := Lib.hid (Hok.out o (List.mem_of_getElem? ho))
        have hoo := HokW.out.below hT.bel
        have hon := Hall.out o (List.mem_of_getElem? ho)
        obtain ⟨ad, rfl, had, hcell⟩ := (Ha.out.below hT.bel).cells (by omega)
        have k0 : wr.cell? (ad.add (k * 4)) = some (.int .i64 o.kind) := hcell (k * 4 + 0) _ (opVs_get l k 0 _ ho (by omega))
        have k1 : wr.cell? (ad.add (k * 4 + 1)) = some (.int .i64 o.a) := hcell (k * 4 + 1) _ (opVs_get l k 1 _ ho (by omega))
        have k2 : wr.cell? (ad.add (k * 4 + 2)) = some (.int .i64 o.b) := hcell (k * 4 + 2) _ (opVs_get l k 2 _ ho (by omega))
        have k3 : wr.cell? (ad.add (k * 4 + 3)) = some (.slice o.A o.n o.c) := hcell (k * 4 + 3) _ (opVs_get l k 3 _ ho (by omega))
        rw [← add_nextN _ _ _ (by omega)] at k1 k2 k3
        have q0 : (0 : Int) ≤ (k : Int) := by omega
        have q1 : (k : Int) < (n : Int) := by omega
        have hadw : ad.block < wr.heap.size := Nat.lt_of_lt_of_le had hT.bel.size
        obtain ⟨kd, na, nb, oA, on, oc, ops⟩ := o
        simp only at k0 k1 k2 k3 hon
        have HT := Lib.hid hT; have HAg := Lib.hid hAg; have Hoo := Lib.hid hoo
        clear hT hAg hoo hcell ho
        obtain ⟨X, hX⟩ : ∃ X, X = wr.alloc (.cells #[.int .i64 kd, .int .i64 na, .int .i64 nb, .slice oA on oc] 44) := ⟨_, rfl⟩
        have hbX : Below wr.heap.size wr X := by rw [hX]; exact below_new (Below.refl _ _) (Nat.le_refl _) _
        have h6 : BlkIs X wr.heap.size 44 #[.int .i64 kd, .int .i64 na, .int .i64 nb, .slice oA on oc] := by rw [hX]; exact BlkIs.new _ _ _
        have hT6 := HT.out.avoid hbX (fun b => b = wr.heap.size) (fun b hb => ⟨.inr (Nat.le_of_eq hb.symm), by rw [hb]; exact h6.lt⟩)
        go_upto_block 2 with fail
        rw [← hX]
        obtain ⟨b6, hb6⟩ : ∃ b, b = wr.heap.size := ⟨_, rfl⟩
        rw [← hb6] at h6 hT6 ⊢
        have H6 := Lib.hid h6; have HT6 := Lib.hid hT6; have HX := Lib.hid hX; have HbX := Lib.hid hbX; have HB6 := Lib.hid hb6
        have f0 := h6.cell 0; have f1 := h6.cell 1; have f2 := h6.cell 2; have f3 := h6.cell 3
        simp at f0 f1 f2 f3
        have hlt6 := h6.lt
        clear h6 hT6 hX hbX k0 k1 k2 k3 hb6
        go_cut [6] (fun s6 wx => s6 = .pointer (some ⟨b6, 0, none⟩) ∧ Hid (At W g gr (k + 1) wx))
        case first =>
          by_cases e2 : kd = 2
          · as_aux_lemma =>
              have d1 : (kd == 1) = false := by rw [beq_eq_false_iff_ne]; omega
              have d2 : (kd == 2) = true := by rw [beq_iff_eq]; omega
              clear e2
              obtain ⟨S, hn, hav, hst⟩ := HT6.out.net
              have hta := take_any S g k ps C na X hn (by omega)
              generalize hpk : getP ps na = pk at hta
              generalize hhb : hasB ps na = hb at hta
              obtain ⟨px, py, pd⟩ := pk
              unfold pkA at hta
              have Hta := Lib.hid hta; have Hst := Lib.hid hst; have Hpk := Lib.hid hpk; have Hhb := Lib.hid hhb
              clear hta hst hn hav hpk hhb
              go_wp2_with fail
              refine Hta.out.mono ?_
              rintro e w4 ⟨rfl, hs4⟩
              obtain ⟨hT4, hk4⟩ := Hst.out _ _ _ _ hs4
              have h64 := blk_kept H6.out (hk4 b6 rfl)
              have hT5 := hT4.avoid (below_new (Below.refl _ _) (Nat.le_refl _) (.cells #[.int .i64 px, .int .i64 py, .string pd] 28)) (fun b => b = b6 ∨ b = w4.heap.size) (fun b hb => by
                rcases hb with rfl | rfl
                · exact ⟨.inl rfl, (h64.alloc _).lt⟩
                · exact ⟨.inr (Nat.le_refl _), by simp⟩)
              have h65 := h64.alloc (.cells #[.int .i64 px, .int .i64 py, .string pd] 28)
              have hp5 := BlkIs.new w4 28 #[.int .i64 px, .int .i64 py, .string pd]
              have c1 := h64.cell 1
              simp at c1
              have hl4 := h64.lt
              have HT5 := Lib.hid hT5; have H65 := Lib.hid h65; have HP5 := Lib.hid hp5
              clear hs4 hT4 hk4 h64 hT5 h65 hp5 Hta Hst f0 f1 f2 f3
              obtain ⟨Y, hY⟩ : ∃ Y, Y = w4.alloc (.cells #[.int .i64 px, .int .i64 py, .string pd] 28) := ⟨_, rfl⟩
              obtain ⟨b4, hb4⟩ : ∃ b, b = w4.heap.size := ⟨_, rfl⟩
              rw [← hY, ← hb4] at HT5 HP5
              rw [← hY] at H65
              obtain ⟨S2, hr2, hav2, hst2⟩ := HT5.out.ref
              have hta2 := refTake_any S2 gr ps cs na Y hr2 (by omega)
              rw [Hpk.out, Hhb.out] at hta2
              unfold pkA at hta2
              have Hta2 := Lib.hid hta2; have Hst2 := Lib.hid hst2; have HY := Lib.hid hY; have HB4 := Lib.hid hb4
              clear hta2 hst2 hr2 hav2 hY hb4
              go_wp2_with fail
              rw [← HY.out, ← HB4.out]
              refine Hta2.out.mono ?_
              rintro e w5 ⟨rfl, hs5⟩
              obtain ⟨hT6', hk6⟩ := Hst2.out _ _ _ hs5
              have hp6 := blk_kept HP5.out (hk6 b4 (.inr rfl))
              have g0 := hp6.cell 0; have g1 := hp6.cell 1; have g2 := hp6.cell 2
              simp at g0 g1 g2
              have hl5 := hp6.lt
              have HT7 := Lib.hid hT6'
              clear hs5 hT6' hk6 hp6 hl4 c1
              go_wp2_with fail
              go_meet
              exact ⟨rfl, Lib.hid (at_mk (HT7.out.avoid (below_new (Below.refl _ _) (Nat.le_refl _) _) (fun _ => False) (fun _ h => h.elim)) (by omega) HAg.out (Nat.le_trans (dropP_len ps na) hpl) (by omega))⟩
          by_cases e3 : kd = 3
          · as_aux_lemma =>
              have d1 : (kd == 1) = false := by rw [beq_eq_false_iff_ne]; omega
              have d2 : (kd == 2) = false := by rw [beq_eq_false_iff_ne]; omega
              have d3 : (kd == 3) = true := by rw [beq_iff_eq]; omega
              clear e3
              obtain ⟨S, hn, hav, hst⟩ := HT6.out.ref
              have hta := refTake_any S gr ps cs na X hn (by omega)
              generalize hpk : getP ps na = pk at hta
              generalize hhb : hasB ps na = hb at hta
              obtain ⟨px, py, pd⟩ := pk
              unfold pkA at hta
              have Hta := Lib.hid hta; have Hst := Lib.hid hst; have Hpk := Lib.hid hpk; have Hhb := Lib.hid hhb
              clear hta hst hn hav hpk hhb
              go_wp2_with fail
              refine Hta.out.mono ?_
              rintro e w4 ⟨rfl, hs4⟩
              obtain ⟨hT4, hk4⟩ := Hst.out _ _ _ hs4
              have h64 := blk_kept H6.out (hk4 b6 rfl)
              have hT5 := hT4.avoid (below_new (Below.refl _ _) (Nat.le_refl _) (.cells #[.int .i64 px, .int .i64 py, .string pd] 28)) (fun b => b = b6 ∨ b = w4.heap.size) (fun b hb => by
                rcases hb with rfl | rfl
                · exact ⟨.inl rfl, (h64.alloc _).lt⟩
                · exact ⟨.inr (Nat.le_refl _), by simp⟩)
              have h65 := h64.alloc (.cells #[.int .i64 px, .int .i64 py, .string pd] 28)
              have hp5 := BlkIs.new w4 28 #[.int .i64 px, .int .i64 py, .string pd]
              have c1 := h64.cell 1
              simp at c1
              have hl4 := h64.lt
              have HT5 := Lib.hid hT5; have H65 := Lib.hid h65; have HP5 := Lib.hid hp5
              clear hs4 hT4 hk4 h64 hT5 h65 hp5 Hta Hst f0 f1 f2 f3
              obtain ⟨Y, hY⟩ : ∃ Y, Y = w4.alloc (.cells #[.int .i64 px, .int .i64 py, .string pd] 28) := ⟨_, rfl⟩
              obtain ⟨b4, hb4⟩ : ∃ b, b = w4.heap.size := ⟨_, rfl⟩
              rw [← hY, ← hb4] at HT5 HP5
              rw [← hY] at H65
              obtain ⟨S2, hr2, hav2, hst2⟩ := HT5.out.net
              have hta2 := drop_any S2 g k ps C na Y hr2 (by omega)
              rw [Hhb.out] at hta2
              have Hta2 := Lib.hid hta2; have Hst2 := Lib.hid hst2; have HY := Lib.hid hY; have HB4 := Lib.hid hb4
              clear hta2 hst2 hr2 hav2 hY hb4
              go_wp2_with fail
              rw [← HY.out, ← HB4.out]
              refine Hta2.out.mono ?_
              rintro e w5 ⟨rfl, hs5⟩
              obtain ⟨hT6', hk6⟩ := Hst2.out _ _ _ _ hs5
              have HT7 := Lib.hid hT6'
              clear hs5 hT6' hk6 hl4 c1
              go_wp2_with fail
              go_meet
              exact ⟨rfl, Lib.hid (at_mk HT7.out (by omega) HAg.out (Nat.le_trans (dropP_len ps na) hpl) (by omega))⟩
          by_cases e4 : kd = 4
          · as_aux_lemma =>
              have d1 : (kd == 1) = false := by rw [beq_eq_false_iff_ne]; omega
              have d2 : (kd == 2) = false := by rw [beq_eq_false_iff_ne]; omega
              have d3 : (kd == 3) = false := by rw [beq_eq_false_iff_ne]; omega
              have d4 : (kd == 4) = true := by rw [beq_iff_eq]; omega
              clear e4
              have hXd : Two W X.drew (fun b => b = b6) g gr ps ps cs C k := HT6.out.under (Below.refl _ _).drew
              have HXd := Lib.hid hXd
              have K6 : ∀ wx, BlkIs wx b6 44 #[.int .i64 kd, .int .i64 na, .int .i64 nb, .slice oA on oc] → wx.cell? ⟨b6, 1, none⟩ = some (.int .i64 na) := fun wx h => by
                have i0 := h.cell 0; have i1 := h.cell 1; have i2 := h.cell 2
                simp at i0 i1 i2
                exact i1
              have HK6 := Lib.hid K6
              clear hXd K6
              go_wp2_with fail
              go_region_held3 (fun wx => wx.cell? ⟨b6, 1, none⟩ = some (.int .i64 na)) (first | exact HK6.out _ H6.out.drew | exact HK6.out _ R6.out | exact HK6.out _ N6.out | exact HK6.out _ L6.out)
                ((first
                  | (go_at_call 10; obtain ⟨S, hn, hav, hst⟩ := HR.out.net; refine (double_any S g k ps C na _ hn).mono ?_; rintro e wN ⟨rfl, hsN⟩; obtain ⟨tN, kN⟩ := hst _ _ _ _ hsN; have HF := Lib.hid tN; have L6 := Lib.hid (blk_kept R6.out (kN b6 rfl)); clear hsN tN kN hst hav hn)
                  | (go_at_call 10; obtain ⟨S, hn, hav, hst⟩ := HXd.out.net; refine (double_any S g k ps C na _ hn).mono ?_; rintro e wN ⟨rfl, hsN⟩; obtain ⟨tN, kN⟩ := hst _ _ _ _ hsN; have HN := Lib.hid tN; have N6 := Lib.hid (blk_kept H6.out.drew (kN b6 rfl)); clear hsN tN kN hst hav hn)
                  | (go_at_call 21; obtain ⟨S, hn, hav, hst⟩ := HN.out.ref; refine (refDouble_any S gr ps cs na _ hn).mono ?_; rintro e wN ⟨rfl, hsN⟩; obtain ⟨tN, kN⟩ := hst _ _ _ hsN; have HF := Lib.hid tN; have L6 := Lib.hid (blk_kept N6.out (kN b6 rfl)); clear hsN tN kN hst hav hn)
                  | (go_at_call 21; obtain ⟨S, hn, hav, hst⟩ := HXd.out.ref; refine (refDouble_any S gr ps cs na _ hn).mono ?_; rintro e wN ⟨rfl, hsN⟩; obtain ⟨tN, kN⟩ := hst _ _ _ hsN; have HR := Lib.hid tN; have R6 := Lib.hid (blk_kept H6.out.drew (kN b6 rfl)); clear hsN tN kN hst hav hn)))
              all_goals
                go_wp2_with fail
                go_meet
                exact ⟨rfl, Lib.hid (at_mk HF.out (by omega) HAg.out (dblP_len ps na hpl) (by omega))⟩
          by_cases e5 : kd = 5
          · as_aux_lemma =>
              have d1 : (kd == 1) = false := by rw [beq_eq_false_iff_ne]; omega
              have d2 : (kd == 2) = false := by rw [beq_eq_false_iff_ne]; omega
              have d3 : (kd == 3) = false := by rw [beq_eq_false_iff_ne]; omega
              have d4 : (kd == 4) = false := by rw [beq_eq_false_iff_ne]; omega
              have d5 : (kd == 5) = true := by rw [beq_iff_eq]; omega
              clear e5
              have hXd : Two W X.drew (fun b => b = b6) g gr ps ps cs C k := HT6.out.under (Below.refl _ _).drew
              have HXd := Lib.hid hXd
              have K6 : ∀ wx, BlkIs wx b6 44 #[.int .i64 kd, .int .i64 na, .int .i64 nb, .slice oA on oc] → wx.cell? ⟨b6, 1, none⟩ = some (.int .i64 na) ∧ wx.cell? ⟨b6, 2, none⟩ = some (.int .i64 nb) := fun wx h => by
                have i0 := h.cell 0; have i1 := h.cell 1; have i2 := h.cell 2
                simp at i0 i1 i2
                exact ⟨i1, i2⟩
              have HK6 := Lib.hid K6
              clear hXd K6
              go_wp2_with fail
              go_region_held3 (fun wx => wx.cell? ⟨b6, 1, none⟩ = some (.int .i64 na) ∧ wx.cell? ⟨b6, 2, none⟩ = some (.int .i64 nb)) (first | exact HK6.out _ H6.out.drew | exact HK6.out _ R6.out | exact HK6.out _ N6.out | exact HK6.out _ L6.out)
                ((first
                  | (go_at_call 22; obtain ⟨S, hn, hav, hst⟩ := HR.out.net; refine (swap_any S g k ps C na nb _ hn (by omega)).mono ?_; rintro e wN ⟨rfl, hsN⟩; obtain ⟨tN, kN⟩ := hst _ _ _ _ hsN; have HF := Lib.hid tN; have L6 := Lib.hid (blk_kept R6.out (kN b6 rfl)); clear hsN tN kN hst hav hn)
                  | (go_at_call 22; obtain ⟨S, hn, hav, hst⟩ := HXd.out.net; refine (swap_any S g k ps C na nb _ hn (by omega)).mono ?_; rintro e wN ⟨rfl, hsN⟩; obtain ⟨tN, kN⟩ := hst _ _ _ _ hsN; have HN := Lib.hid tN; have N6 := Lib.hid (blk_kept H6.out.drew (kN b6 rfl)); clear hsN tN kN hst hav hn)
                  | (go_at_call 23; obtain ⟨S, hn, hav, hst⟩ := HN.out.ref; refine (refSwap_any S gr ps cs na nb _ hn (by omega)).mono ?_; rintro e wN ⟨rfl, hsN⟩; obtain ⟨tN, kN⟩ := hst _ _ _ hsN; have HF := Lib.hid tN; have L6 := Lib.hid (blk_kept N6.out (kN b6 rfl)); clear hsN tN kN hst hav hn)
                  | (go_at_call 23; obtain ⟨S, hn, hav, hst⟩ := HXd.out.ref; refine (refSwap_any S gr ps cs na nb _ hn (by omega)).mono ?_; rintro e wN ⟨rfl, hsN⟩; obtain ⟨tN, kN⟩ := hst _ _ _ hsN; have HR := Lib.hid tN; have R6 := Lib.hid (blk_kept H6.out.drew (kN b6 rfl)); clear hsN tN kN hst hav hn)))
              all_goals
                go_wp2_with fail
                go_meet
                exact ⟨rfl, Lib.hid (at_mk HF.out (by omega) HAg.out (by rw [swpP_len]; exact hpl) (by omega))⟩
          by_cases e6 : kd = 6
          · as_aux_lemma =>
              have d1 : (kd == 1) = false := by rw [beq_eq_false_iff_ne]; omega
              have d2 : (kd == 2) = false := by rw [beq_eq_false_iff_ne]; omega
              have d3 : (kd == 3) = false := by rw [beq_eq_false_iff_ne]; omega
              have d4 : (kd == 4) = false := by rw [beq_eq_false_iff_ne]; omega
              have d5 : (kd == 5) = false := by rw [beq_eq_false_iff_ne]; omega
              have d6 : (kd == 6) = true := by rw [beq_iff_eq]; omega
              clear e6
              obtain ⟨S, hn, hav, hst⟩ := HT6.out.net
              have hcu := cut_any S g k ps C na nb true X hn (by omega) Hoo.out.wa Hoo.out.wb
              have Hcu := Lib.hid hcu; have Hst := Lib.hid hst
              clear hcu hst hn hav
              go_wp2_with fail
              refine Hcu.out.mono ?_
              rintro e w4 ⟨rfl, hs4⟩
              obtain ⟨hT4, hk4⟩ := Hst.out _ _ _ _ hs4
              have h64 := blk_kept H6.out (hk4 b6 rfl)
              have c0 := h64.cell 0; have c1 := h64.cell 1; have c2 := h64.cell 2
              simp at c0 c1 c2
              obtain ⟨S2, hr2, hav2, hst2⟩ := hT4.ref
              have hcu2 := refCut_any S2 gr ps cs na nb true w4 hr2 (by omega)
              have Hcu2 := Lib.hid hcu2; have Hst2 := Lib.hid hst2
              clear hs4 hk4 h64 hcu2 hst2 hr2 hav2 hT4 f0 f1 f2 f3 Hcu Hst
              go_wp2_with fail
              refine Hcu2.out.mono ?_
              rintro e w5 ⟨rfl, hs5⟩
              obtain ⟨hT5, hk5⟩ := Hst2.out _ _ _ hs5
              have HT7 := Lib.hid hT5
              clear hs5 hT5 hk5
              go_wp2_with fail
              go_meet
              exact ⟨rfl, Lib.hid (at_mk HT7.out (by omega) (agree_cut HAg.out na nb true) hpl (rcut_len hcl))⟩
          by_cases e7 : kd = 7
          · as_aux_lemma =>
              have d1 : (kd == 1) = false := by rw [beq_eq_false_iff_ne]; omega
              have d2 : (kd == 2) = false := by rw [beq_eq_false_iff_ne]; omega
              have d3 : (kd == 3) = false := by rw [beq_eq_false_iff_ne]; omega
              have d4 : (kd == 4) = false := by rw [beq_eq_false_iff_ne]; omega
              have d5 : (kd == 5) = false := by rw [beq_eq_false_iff_ne]; omega
              have d6 : (kd == 6) = false := by rw [beq_eq_false_iff_ne]; omega
              have d7 : (kd == 7) = true := by rw [beq_iff_eq]; omega
              clear e7
              obtain ⟨S, hn, hav, hst⟩ := HT6.out.net
              have hcu := cut_any S g k ps C na nb false X hn (by omega) Hoo.out.wa Hoo.out.wb
              have Hcu := Lib.hid hcu; have Hst := Lib.hid hst
              clear hcu hst hn hav
              go_wp2_with fail
              refine Hcu.out.mono ?_
              rintro e w4 ⟨rfl, hs4⟩
              obtain ⟨hT4, hk4⟩ := Hst.out _ _ _ _ hs4
              have h64 := blk_kept H6.out (hk4 b6 rfl)
              have c0 := h64.cell 0; have c1 := h64.cell 1; have c2 := h64.cell 2
              simp at c0 c1 c2
              obtain ⟨S2, hr2, hav2, hst2⟩ := hT4.ref
              have hcu2 := refCut_any S2 gr ps cs na nb false w4 hr2 (by omega)
              have Hcu2 := Lib.hid hcu2; have Hst2 := Lib.hid hst2
              clear hs4 hk4 h64 hcu2 hst2 hr2 hav2 hT4 f0 f1 f2 f3 Hcu Hst
              go_wp2_with fail
              refine Hcu2.out.mono ?_
              rintro e w5 ⟨rfl, hs5⟩
              obtain ⟨hT5, hk5⟩ := Hst2.out _ _ _ hs5
              have HT7 := Lib.hid hT5
              clear hs5 hT5 hk5
              go_wp2_with fail
              go_meet
              exact ⟨rfl, Lib.hid (at_mk HT7.out (by omega) (agree_cut HAg.out na nb false) hpl (rcut_len hcl))⟩
          by_cases e8 : kd = 8
          · as_aux_lemma =>
              have d1 : (kd == 1) = false := by rw [beq_eq_false_iff_ne]; omega
              have d2 : (kd == 2) = false := by rw [beq_eq_false_iff_ne]; omega
              have d3 : (kd == 3) = false := by rw [beq_eq_false_iff_ne]; omega
              have d4 : (kd == 4) = false := by rw [beq_eq_false_iff_ne]; omega
              have d5 : (kd == 5) = false := by rw [beq_eq_false_iff_ne]; omega
              have d6 : (kd == 6) = false := by rw [beq_eq_false_iff_ne]; omega
              have d7 : (kd == 7) = false := by rw [beq_eq_false_iff_ne]; omega
              have d8 : (kd == 8) = true := by rw [beq_iff_eq]; omega
              clear e8
              obtain ⟨S, hr, hav, hst⟩ := HT6.out.ref
              obtain ⟨v1, v2, hB, h1, h2, s1, s2, s3⟩ := id hr
              have hs8 := hst _ _ _ (refStep_row (ps' := []) (v' := .slice none 0 0) hB h2 s1 s3 (Chg.refl _ _) (Below.refl _ _) (World.ownsRow_nil _ _ _ _) (fun b hb => by simp [Value.ownBlock] at hb))
              obtain ⟨A1, k1, rfl, hk1⟩ := own_slice h1
              have r0 := hB.cell 0; have rf := hB.free 0
              simp at r0
              have hgl := hB.lt
              obtain ⟨hT4, hk4⟩ := hs8
              obtain ⟨S2, hn2, hav2, hst2⟩ := hT4.net
              have hcl2 := clear_any S2 g k ps C _ hn2
              have Hcl := Lib.hid hcl2; have Hst2 := Lib.hid hst2
              clear hB h1 h2 s1 s2 s3 hst hr hav hT4 hk4 hn2 hav2 hst2 hcl2
              go_wp2_with fail
              refine Hcl.out.mono ?_
              rintro e w5 ⟨rfl, hs5⟩
              obtain ⟨hT5, hk5⟩ := Hst2.out _ _ _ _ hs5
              have HT7 := Lib.hid hT5
              clear hs5 hT5 hk5
              go_wp2_with fail
              go_meet
              exact ⟨rfl, Lib.hid (at_mk HT7.out (by omega) HAg.out (by simp) (by omega))⟩
          by_cases e1 : kd = 1
          · as_aux_lemma =>
              have d1 : (kd == 1) = true := by rw [beq_iff_eq]; exact e1
              clear e1
              have hlp := lentPackets_any W.heap.size on oc oA ops X ((HokW.out.below HT6.out.bel).sl) HT6.out.bel.size (by omega) HokW.out.nc
              have hlen := HokW.out.len
              simp only at hlen
              have Hlen := Lib.hid hlen
              have Hlp := Lib.hid hlp
              clear hlp hlen
              go_wp2_with fail
              refine Hlp.out.mono ?_
              rintro e w4 ⟨gm, cm, rfl, hcm, ho4, hb4⟩
              have h64 := H6.out.below hb4 hlt6
              have hgm : X.heap.size ≤ gm ∧ gm < w4.heap.size := ho4.lt gm rfl
              have hT4 := HT6.out.avoid hb4 (fun b => b = b6 ∨ b = gm) (fun b hb => by
                rcases hb with rfl | rfl
                · exact ⟨.inl rfl, h64.lt⟩
                · exact ⟨.inr hgm.1, hgm.2⟩)
              have HT4 := Lib.hid hT4; have H64 := Lib.hid h64; have HO4 := Lib.hid ho4
              clear ho4 hb4 h64 hT4 f0 f1 f2 f3
              go_wp2_with fail
              go_loopw [8, 9] (fun cn j wr => ∃ (q : Nat) (qs : List Pk × Nat), q ≤ on ∧ j = .int .i64 q ∧ cn = .int .i64 (qs.2 : Nat) ∧ qs.2 ≤ q ∧ Hid (qs = sendS C ps (ops.take q)) ∧ Hid (Two W wr (fun b => b = b6 ∨ b = gm) g gr ps qs.1 cs C k) ∧ Hid (BlkIs wr b6 44 #[.int .i64 kd, .int .i64 na, .int .i64 nb, .slice oA on oc]) ∧ Hid (wr.ownsRow X.heap.size 28 3 (.slice (some ⟨gm, 0, none⟩) (on + 1) cm) (on + 1) (pkVs (ops ++ [markP])))) (fun _ j _ => on - (intOf j).toNat)
              case atStart => exact ⟨0, (ps, 0), Nat.zero_le _, rfl, rfl, Nat.le_refl _, Lib.hid (by simp [sendS]), HT4, H64, HO4⟩
              case round =>
                obtain ⟨q, qs, hq, rfl, rfl, hcnt, Hqs, HTl, H6l, HOl⟩ := hrel
                have f3 := H6l.out.cell 3
                simp at f3
                have hl6 := H6l.out.lt
                have hql : qs.1.length ≤ 2000 := by rw [Hqs.out]; exact sendS_len C ps _ hpl
                by_cases hlt : q < on
                · obtain ⟨p, hp⟩ : ∃ p, ops[q]? = some p := ⟨_, List.getElem?_eq_getElem (by rw [Hlen.out]; exact hlt)⟩
                  obtain ⟨ad7, hA7, had7, hcell7⟩ := ((HokW.out.below HTl.out.bel).sl).cells (show 0 < on by omega)
                  simp only at hA7
                  rw [hA7] at f3
                  have hsn := sendS_snoc C ps (ops.take q) p
                  have htk : ops.take (q + 1) = ops.take q ++ [p] := by rw [List.take_add_one, hp]; rfl
                  rw [← htk, ← Hqs.out] at hsn
                  have z0 := hcell7 (q * 3) _ (pkVs_get ops q 0 _ hp (by omega))
                  have z1 := hcell7 (q * 3 + 1) _ (pkVs_get ops q 1 _ hp (by omega))
                  have z2 := hcell7 (q * 3 + 2) _ (pkVs_get ops q 2 _ hp (by omega))
                  obtain ⟨x, y, s⟩ := p
                  simp [pkC] at z0 z1 z2
                  rw [← add_nextN _ _ _ (by omega)] at z1 z2
                  have q0 : (0 : Int) ≤ (q : Int) := by omega
                  have q1 : (q : Int) < (on : Int) := by omega
                  obtain ⟨S, hr, hav, hst⟩ := HTl.out.ref
                  have hse := refSend_any S gr qs.1 cs x y s wr hr (by omega) (by omega)
                  rw [(agree_put HAg.out qs.1 (x, y, s)).1, (agree_put HAg.out qs.1 (x, y, s)).2] at hse
                  have Hse := Lib.hid hse; have Hst := Lib.hid hst; have Hsn := Lib.hid hsn
                  clear hA7 hcell7 hp htk hse hst hr hav hsn had7
                  go_wp2_with fail
                  refine Hse.out.mono ?_
                  rintro e w5 ⟨rfl, hs5⟩
                  obtain ⟨hT5, hk5⟩ := Hst.out _ _ _ hs5
                  have H65 := Lib.hid (blk_kept H6l.out (hk5 b6 (.inl rfl)))
                  have HO5 := Lib.hid (own_kept HOl.out (fun b hb => hk5 b (.inr (by simpa [Value.ownBlock] using hb.symm))))
                  have HT5 := Lib.hid hT5
                  clear hs5 hT5 hk5
                  cases hb : putB C qs.1 (x, y, s) with
                  | false =>
                    rw [hb] at Hsn
                    have Hb := Lib.hid hb; clear hb
                    go_wp2_with fail
                    go_roundw
                    case rel => exact ⟨q + 1, sendS C ps (ops.take (q + 1)), by omega, by go_num, by rw [Hsn.out]; rfl, by rw [Hsn.out]; simp; omega, Lib.hid rfl, Lib.hid (by rw [Hsn.out]; exact HT5.out), H65, HO5⟩
                    case measure => simp [intOf] <;> omega
                  | true =>
                    rw [hb] at Hsn
                    have Hb := Lib.hid hb; clear hb
                    go_wp2_with fail
                    go_roundw
                    case rel => exact ⟨q + 1, sendS C ps (ops.take (q + 1)), by omega, by go_num, by rw [Hsn.out]; first | rfl | go_num, by rw [Hsn.out]; simp; omega, Lib.hid rfl, Lib.hid (by rw [Hsn.out]; exact HT5.out), H65, HO5⟩
                    case measure => simp [intOf] <;> omega
                · obtain rfl : q = on := by omega
                  have hqs2 : qs = sendS C ps ops := by rw [Hqs.out, List.take_of_length_le (by rw [Hlen.out]; omega)]
                  have hd9 : decide (q < q) = false := by simp
                  obtain ⟨S, hn, hav, hst⟩ := HTl.out.net
                  have hse := send_any S g k wr.heap.size q cm (some ⟨gm, 0, none⟩) ps ops C wr hn (lentP_sl HOl.out).1 (Nat.le_refl _) (fun ad h => by injection h with h; subst h; exact hav gm (.inr rfl)) (by omega) (fun p hp => (HokW.out.pk p hp).1)
                  rw [← hqs2] at hse
                  have Hse := Lib.hid hse; have Hst := Lib.hid hst
                  clear hqs2 hlt hn hav hst hse
                  go_wp2_with fail
                  refine Hse.out.mono ?_
                  rintro e w5 ⟨rfl, hs5⟩
                  obtain ⟨hT5, hk5⟩ := Hst.out _ _ _ _ hs5
                  have h65 := blk_kept H6l.out (hk5 b6 (.inl rfl))
                  have HO5 := Lib.hid (own_kept HOl.out (fun b hb => hk5 b (.inr (by simpa [Value.ownBlock] using hb.symm))))
                  have HT5 := Lib.hid hT5
                  have j3 := h65.cell 3
                  simp at j3
                  clear hs5 hT5 hk5 h65 f3 Hse Hst
                  go_wp2_with fail
                  refine (staysPackets_any W.heap.size q cm oc gm oA ops X.heap.size w5 HO5.out ((HokW.out.below HT5.out.bel).sl) (by omega)).mono ?_
                  rintro e w6 ⟨rfl, z, rfl⟩
                  go_wp2_with fail
                  go_meet
                  exact ⟨rfl, Lib.hid (at_mk (HT5.out.drewN z) (by omega) HAg.out hql (by omega))⟩
          have d1 : (kd == 1) = false := by rw [beq_eq_false_iff_ne]; exact e1
          have d2 : (kd == 2) = false := by rw [beq_eq_false_iff_ne]; exact e2
          have d3 : (kd == 3) = false := by rw [beq_eq_false_iff_ne]; exact e3
          have d4 : (kd == 4) = false := by rw [beq_eq_false_iff_ne]; exact e4
          have d5 : (kd == 5) = false := by rw [beq_eq_false_iff_ne]; exact e5
          have d6 : (kd == 6) = false := by rw [beq_eq_false_iff_ne]; exact e6
          have d7 : (kd == 7) = false := by rw [beq_eq_false_iff_ne]; exact e7
          have d8 : (kd == 8) = false := by rw [beq_eq_false_iff_ne]; exact e8
          as_aux_lemma =>
            obtain ⟨i0, hi0, hz0, hz1, hz2⟩ := info_parts info_pk
            obtain ⟨S, hr, hav, hst⟩ := HT6.out.ref
            obtain ⟨v1, v2, hB, h1, h2, s1, s2, s3⟩ := id hr
            obtain ⟨A1, k1, rfl, hk1⟩ := own_slice h1
            have r0 := hB.cell 0
            simp at r0
            have hl2 : (ps.length : Int) ≤ 2000 := by omega
            have hfill : cs.length = 0 → (sendS C ps (List.replicate 2005 (0, 0, ByteArray.empty))).2 = 2000 - ps.length := fun h0 => by
              have hc0 : cs = [] := List.eq_nil_of_length_eq_zero h0
              have hC0 : C (min 0 0) (max 0 0) = false := by rw [HAg.out 0 0, hc0]; rfl
              rw [(sendS_fill C ps 2005 (0, 0, ByteArray.empty) hC0).1]
              omega
            have Hfill := Lib.hid hfill
            have hmade : (madeCells (Value.agg #[.int .i64 0, .int .i64 0, .string ByteArray.empty]).cells (2005 * 3)).toList = pkVs (List.replicate 2005 (0, 0, ByteArray.empty)) := made_pk 2005
            have Hmade := Lib.hid hmade
            obtain ⟨cnt, hcnt⟩ : ∃ cnt, sendS C ps (List.replicate 2005 (0, 0, ByteArray.empty)) = cnt := ⟨_, rfl⟩
            have hcl1 : cnt.1.length ≤ 2000 := by rw [← hcnt]; exact sendS_len C ps _ hpl
            have hcl2 : cnt.2 ≤ 2005 := by rw [← hcnt]; have := sendS_le C ps (List.replicate 2005 (0, 0, ByteArray.empty)); rwa [List.length_replicate] at this
            rw [hcnt] at Hfill
            have Hcnt := Lib.hid hcnt
            obtain ⟨Sn, hn, hav2, hst2⟩ := HT6.out.net
            clear hfill hmade hcnt h1 h2 s1 s2 s3 hst hr hav hn hav2 hst2 hB
            have hcase : (ps.length : Int) < 2000 ∨ ps.length = 2000 := by omega
            obtain ⟨room, hroom⟩ : ∃ room : Nat, room = 2000 - ps.length := ⟨_, rfl⟩
            have e1 : (2000 : Int) - (ps.length : Int) = (room : Int) := by omega
            have hrm : room ≤ 2000 := by omega
            have Hroom := Lib.hid hroom
            clear hroom hcase
            have hrc : (0 : Int) < (room : Int) ∨ room = 0 := by omega
            rcases hrc with hrc | rfl
            · skip
              go_wp2_with (at_make; refine wpList_make_full _ rfl _ _ 39 rfl X.heap.size 28 i0 _ 3 Try.underlying39 hi0 hz0 hz1 _ _ _ _ 2005 rfl rfl rfl rfl (by rw [hz2]; decide) (by simp [maxLen]) (Nat.le_refl _) ?_; intro w4 hown4 hgr4; rw [Hmade.out] at hown4; have hb4 : Below X.heap.size X w4 := (Below.refl _ _).grown hgr4 (Nat.le_refl _) (fun q hq => by cases hq); have HO4 := Lib.hid hown4; have hlm := (hown4.lt X.heap.size rfl).2; have HT4 := Lib.hid (HT6.out.avoid hb4 (fun b => b = X.heap.size) (fun b hb => ⟨.inr (Nat.le_of_eq hb.symm), by rw [hb]; exact hlm⟩)); clear hown4 hgr4 hb4)
              obtain ⟨S4, hn4, hav4, hst4⟩ := HT4.out.net
              have hse := send_any S4 g k w4.heap.size 2005 2005 (some ⟨X.heap.size, 0, none⟩) ps (List.replicate 2005 (0, 0, ByteArray.empty)) C w4 hn4 (SlR.own HO4.out) (Nat.le_refl _) (fun ad h => by injection h with h; subst h; exact hav4 X.heap.size rfl) (by omega) (fun p hp => by rw [List.eq_of_mem_replicate hp]; exact ⟨⟨by decide, by decide⟩, by decide, by decide⟩)
              rw [Hcnt.out] at hse
              have Hse := Lib.hid hse; have Hst4 := Lib.hid hst4
              clear hn4 hav4 hst4 hse
              refine Hse.out.mono ?_
              rintro e w5 ⟨rfl, hs5⟩
              obtain ⟨hT5, hk5⟩ := Hst4.out _ _ _ _ hs5
              have HT5 := Lib.hid hT5
              clear hs5 hT5 hk5 r0
              obtain ⟨S5, hr5, _, _⟩ := HT5.out.ref
              obtain ⟨v1, v2, hB5, h15, h25, _⟩ := id hr5
              obtain ⟨A5, k5, rfl, _⟩ := own_slice h25
              have r5 := hB5.cell 1
              simp at r5
              clear hr5 hB5 h15 h25
              by_cases hlt2 : cnt.2 < room
              · have hne : cs.length ≠ 0 := fun h0 => by have := Hfill.out h0; have := Hroom.out; omega
                have dne : ((cs.length : Int) == 0) = false := by rw [beq_eq_false_iff_ne]; omega
                have hlt3 : (cnt.2 : Int) < (room : Int) := by omega
                clear hlt2 hne
                go_wp2_with fail
                obtain ⟨S6, hn6, _, hst6⟩ := HT5.out.net
                have hc6 := clear_any S6 g k cnt.1 C w5 hn6
                have Hc6 := Lib.hid hc6; have Hst6 := Lib.hid hst6
                clear hn6 hst6 hc6 r5
                refine Hc6.out.mono ?_
                rintro e w6 ⟨rfl, hs6⟩
                obtain ⟨hT6', _⟩ := Hst6.out _ _ _ _ hs6
                obtain ⟨S7, hr7, _, hst7⟩ := hT6'.ref
                obtain ⟨v1, v2, hB7, h17, h27, s1, s2, s3⟩ := id hr7
                have hs8 := hst7 _ _ _ (refStep_row (ps' := []) (v' := .slice none 0 0) hB7 h27 s1 s3 (Chg.refl _ _) (Below.refl _ _) (World.ownsRow_nil _ _ _ _) (fun b hb => by simp [Value.ownBlock] at hb))
                have r7 := hB7.cell 0; have rf7 := hB7.free 0
                have r7 : w6.cell? ⟨gr, 0, none⟩ = some v1 := r7
                have HT8 := Lib.hid hs8.1
                clear hs6 hT6' hr7 hst7 hB7 h17 h27 s1 s2 s3 hs8
                go_wp2_with fail
                go_meet
                exact ⟨rfl, Lib.hid (at_mk HT8.out (by omega) HAg.out (by simp) (by omega))⟩
              · have hlt3 : (room : Int) ≤ (cnt.2 : Int) := by omega
                clear hlt2
                go_wp2_with fail
                obtain ⟨S6, hn6, _, hst6⟩ := HT5.out.net
                have hc6 := clear_any S6 g k cnt.1 C w5 hn6
                have Hc6 := Lib.hid hc6; have Hst6 := Lib.hid hst6
                clear hn6 hst6 hc6 r5
                refine Hc6.out.mono ?_
                rintro e w6 ⟨rfl, hs6⟩
                obtain ⟨hT6', _⟩ := Hst6.out _ _ _ _ hs6
                obtain ⟨S7, hr7, _, hst7⟩ := hT6'.ref
                obtain ⟨v1, v2, hB7, h17, h27, s1, s2, s3⟩ := id hr7
                have hs8 := hst7 _ _ _ (refStep_row (ps' := []) (v' := .slice none 0 0) hB7 h27 s1 s3 (Chg.refl _ _) (Below.refl _ _) (World.ownsRow_nil _ _ _ _) (fun b hb => by simp [Value.ownBlock] at hb))
                have r7 := hB7.cell 0; have rf7 := hB7.free 0
                have r7 : w6.cell? ⟨gr, 0, none⟩ = some v1 := r7
                have HT8 := Lib.hid hs8.1
                clear hs6 hT6' hr7 hst7 hB7 h17 h27 s1 s2 s3 hs8
                go_wp2_with fail
                go_meet
                exact ⟨rfl, Lib.hid (at_mk HT8.out (by omega) HAg.out (by simp) (by omega))⟩
            · skip
              go_wp2_with (at_make; refine wpList_make_full _ rfl _ _ 39 rfl X.heap.size 28 i0 _ 3 Try.underlying39 hi0 hz0 hz1 _ _ _ _ 2005 rfl rfl rfl rfl (by rw [hz2]; decide) (by simp [maxLen]) (Nat.le_refl _) ?_; intro w4 hown4 hgr4; rw [Hmade.out] at hown4; have hb4 : Below X.heap.size X w4 := (Below.refl _ _).grown hgr4 (Nat.le_refl _) (fun q hq => by cases hq); have HO4 := Lib.hid hown4; have hlm := (hown4.lt X.heap.size rfl).2; have HT4 := Lib.hid (HT6.out.avoid hb4 (fun b => b = X.heap.size) (fun b hb => ⟨.inr (Nat.le_of_eq hb.symm), by rw [hb]; exact hlm⟩)); clear hown4 hgr4 hb4)
              obtain ⟨S4, hn4, hav4, hst4⟩ := HT4.out.net
              have hse := send_any S4 g k w4.heap.size 2005 2005 (some ⟨X.heap.size, 0, none⟩) ps (List.replicate 2005 (0, 0, ByteArray.empty)) C w4 hn4 (SlR.own HO4.out) (Nat.le_refl _) (fun ad h => by injection h with h; subst h; exact hav4 X.heap.size rfl) (by omega) (fun p hp => by rw [List.eq_of_mem_replicate hp]; exact ⟨⟨by decide, by decide⟩, by decide, by decide⟩)
              rw [Hcnt.out] at hse
              have Hse := Lib.hid hse; have Hst4 := Lib.hid hst4
              clear hn4 hav4 hst4 hse
              refine Hse.out.mono ?_
              rintro e w5 ⟨rfl, hs5⟩
              obtain ⟨hT5, hk5⟩ := Hst4.out _ _ _ _ hs5
              have HT5 := Lib.hid hT5
              clear hs5 hT5 hk5 r0
              obtain ⟨S5, hr5, _, _⟩ := HT5.out.ref
              obtain ⟨v1, v2, hB5, h15, h25, _⟩ := id hr5
              obtain ⟨A5, k5, rfl, _⟩ := own_slice h25
              have r5 := hB5.cell 1
              simp at r5
              clear hr5 hB5 h15 h25
              by_cases hlt2 : cnt.2 < 0
              · exact absurd hlt2 (Nat.not_lt_zero _)
              · have hlt3 : 0 ≤ (cnt.2 : Int) := by omega
                clear hlt2
                go_wp2_with fail
                obtain ⟨S6, hn6, _, hst6⟩ := HT5.out.net
                have hc6 := clear_any S6 g k cnt.1 C w5 hn6
                have Hc6 := Lib.hid hc6; have Hst6 := Lib.hid hst6
                clear hn6 hst6 hc6 r5
                refine Hc6.out.mono ?_
                rintro e w6 ⟨rfl, hs6⟩
                obtain ⟨hT6', _⟩ := Hst6.out _ _ _ _ hs6
                obtain ⟨S7, hr7, _, hst7⟩ := hT6'.ref
                obtain ⟨v1, v2, hB7, h17, h27, s1, s2, s3⟩ := id hr7
                have hs8 := hst7 _ _ _ (refStep_row (ps' := []) (v' := .slice none 0 0) hB7 h27 s1 s3 (Chg.refl _ _) (Below.refl _ _) (World.ownsRow_nil _ _ _ _) (fun b hb => by simp [Value.ownBlock] at hb))
                have r7 := hB7.cell 0; have rf7 := hB7.free 0
                have r7 : w6.cell? ⟨gr, 0, none⟩ = some v1 := r7
                have HT8 := Lib.hid hs8.1
                clear hs6 hT6' hr7 hst7 hB7 h17 h27 s1 s2 s3 hs8
                go_wp2_with fail
                go_meet
                exact ⟨rfl, Lib.hid (at_mk HT8.out (by omega) HAg.out (by simp) (by omega))⟩
        case rest =>
          obtain ⟨rfl, HK2⟩ := hcut
          obtain ⟨ps', cs', C', hT, hAg', hp', hc'⟩ := HK2.out
          obtain ⟨Sr, hr, _, _⟩ := hT.ref
          obtain ⟨Sn, hn, _, _⟩ := hT.net
          obtain ⟨v1, v2, hB, h1r, _⟩ := id hr
          obtain ⟨A1, k1, rfl, hk1⟩ := own_slice h1r
          have hgl := hB.lt
          have KC : ∀ wx, Below wc.heap.size wc wx → wx.cell? ⟨gr, 0, none⟩ = some (.slice A1 ps'.length k1) := fun wx hb => by
            have := (hB.below hb hgl).cell 0
            simpa using this
          have KE : ∀ wx (j : Nat) (p : Pk), Below wc.heap.size wc wx → ps'[j]? = some p → ∃ rr, A1 = some ⟨rr, 0, none⟩ ∧ rr < wx.heap.size ∧ wx.cell? ⟨rr, j * 3, none⟩ = some (.int .i64 p.1) ∧ wx.cell? ⟨rr, j * 3 + 1, none⟩ = some (.int .i64 p.2.1) ∧ wx.cell? ⟨rr, j * 3 + 2, none⟩ = some (.string p.2.2) := fun wx j p hb hp => by
            have hjl := (List.getElem?_eq_some_iff.1 hp).1
            have ho := own_below h1r hb (fun q hq => (h1r.lt q hq).2)
            obtain ⟨rr, cc, hv, _, hrl⟩ := ho.form (by omega)
            injection hv with hv _ hv2
            subst hv hv2
            have k0 := (ho.cellAt (j * 3) (by omega)).trans (pkVs_get ps' j 0 _ hp (by omega))
            have k1' := (ho.cellAt (j * 3 + 1) (by omega)).trans (pkVs_get ps' j 1 _ hp (by omega))
            have k2 := (ho.cellAt (j * 3 + 2) (by omega)).trans (pkVs_get ps' j 2 _ hp (by omega))
            simp [pkC] at k0 k1' k2
            exact ⟨rr, rfl, hrl, k0, k1', k2⟩
          have HKC := Lib.hid KC; have HKE := Lib.hid KE; have HTr := Lib.hid hT; have HRr := Lib.hid hr; have HNn := Lib.hid hn; have HAg2 := Lib.hid hAg'
          have r0 := KC wc (Below.refl _ _)
          clear hT hr hn hB h1r KC KE hAg'
          have hl2 : (ps'.length : Int) ≤ 2000 := by omega
          go_wp2_with fail
          go_region_held3 (fun wx => wx.cell? ⟨gr, 0, none⟩ = some (.slice A1 ps'.length k1)) (first | exact HKC.out _ (Below.refl _ _).drew | exact HKC.out _ (below_drewN (Below.refl _ _) _)) ((go_at_call 12; refine (len_any Sn g (k + 1) ps' C' _ (HNn.out.drew)).mono ?_; rintro e w4 ⟨rfl, rfl⟩))
          all_goals
            go_wp2_with fail
            go_loopw [18] (fun s wr => ∃ j : Int, -1 ≤ j ∧ j ≤ (ps'.length : Int) + 1 ∧ j ≤ 40 ∧ s = .int .i64 j ∧ Hid (Below wc.heap.size wc wr)) (fun s _ => ((ps'.length : Int) + 1 - intOf s).toNat)
            case atStart => exact ⟨-1, by omega, by omega, by omega, rfl, Lib.hid (Below.refl _ _).drew⟩
            case round =>
              obtain ⟨j, hj1, hj2, hj3, rfl, Hbw⟩ := hrel
              have r1 := HKC.out wr Hbw.out
              by_cases hin : j ≤ (ps'.length : Int) ∧ j < 40
              · obtain ⟨hin1, hin2⟩ := hin
                have hpe := peek_any Sn g (k + 1) ps' C' j wr (HNn.out.below Hbw.out) (by omega)
                cases hb : hasB ps' j with
                | true =>
                  rw [hb] at hpe
                  obtain ⟨m, rfl, hm⟩ := hasB_nat hb
                  obtain ⟨p, hp⟩ : ∃ p, ps'[m]? = some p := ⟨_, List.getElem?_eq_getElem hm⟩
                  rw [getP_yes hp] at hpe
                  obtain ⟨x, y, s⟩ := p
                  unfold pkA at hpe
                  have Hpe := Lib.hid hpe; have Hp := Lib.hid hp; have Hhb := Lib.hid hb
                  have m0 : (0 : Int) ≤ (m : Int) := by omega
                  have m1 : (m : Int) < (ps'.length : Int) := by omega
                  clear hpe hp hb
                  go_wp2_with fail
                  refine Hpe.out.mono ?_
                  rintro e w4 ⟨rfl, hb4⟩
                  have Hb4 := Lib.hid (Hbw.out.trans (hb4.mono Hbw.out.size))
                  clear hb4 r1
                  go_wp2_with fail
                  obtain ⟨Y, hY⟩ : ∃ Y, Y = w4.alloc (.cells #[.int .i64 x, .int .i64 y, .string s] 28) := ⟨_, rfl⟩
                  have hP := BlkIs.new w4 28 #[.int .i64 x, .int .i64 y, .string s]
                  rw [← hY] at hP ⊢
                  have HbY : Hid (Below wc.heap.size wc Y) := Lib.hid (by rw [hY]; exact below_new Hb4.out (Nat.le_refl _) _)
                  generalize w4.heap.size = bp at hP ⊢
                  have u0 := hP.cell 0; have u1 := hP.cell 1; have u2' := hP.cell 2
                  simp at u0 u1 u2'
                  obtain ⟨rr, hA, hrr, y0, y1, y2⟩ := HKE.out Y m _ HbY.out Hp.out
                  simp only at y0 y1 y2
                  have r2 := HKC.out Y HbY.out
                  rw [hA] at r2
                  clear hY hP hA
                  have hHas : ∀ nq, Calls Try.prog 26 #[.pointer (some ⟨gr, 0, none⟩), .int .i64 (m : Int)] (Y.drewN nq) fun e w' => e = .returned (.bool true) ∧ w' = Y.drewN nq := fun nq => by
                    have h7 := refHas_any Sr gr ps' cs' (m : Int) (Y.drewN nq) (HRr.out.below (below_drewN HbY.out nq))
                    rw [Hhb.out] at h7
                    exact h7.mono fun _ _ h => ⟨h.1, h.2.symm⟩
                  have HHas := Lib.hid hHas
                  clear hHas
                  go_quiet ((go_at_call 26; exact Calls.quiet_of_same (HHas.out _)))
                  go_wp2_with fail
                  go_roundw
                  case rel => exact ⟨(m : Int) + 1, by omega, by omega, by omega, rfl, Lib.hid (below_drewN HbY.out _)⟩
                  case measure => simp [intOf] <;> omega
                | false =>
                  rw [hb] at hpe
                  have hz : getP ps' j = (0, 0, ByteArray.empty) := by unfold getP; rw [hb]; rfl
                  rw [hz] at hpe
                  unfold pkA at hpe
                  have Hpe := Lib.hid hpe; have Hhb := Lib.hid hb
                  clear hpe hb hz
                  go_wp2_with fail
                  refine Hpe.out.mono ?_
                  rintro e w4 ⟨rfl, hb4⟩
                  have Hb4 := Lib.hid (Hbw.out.trans (hb4.mono Hbw.out.size))
                  clear hb4 r1
                  go_wp2_with fail
                  obtain ⟨Y, hY⟩ : ∃ Y, Y = w4.alloc (.cells #[.int .i64 0, .int .i64 0, .string ByteArray.empty] 28) := ⟨_, rfl⟩
                  have hP := BlkIs.new w4 28 #[.int .i64 0, .int .i64 0, .string ByteArray.empty]
                  rw [← hY] at hP ⊢
                  have HbY : Hid (Below wc.heap.size wc Y) := Lib.hid (by rw [hY]; exact below_new Hb4.out (Nat.le_refl _) _)
                  generalize w4.heap.size = bp at hP ⊢
                  have u0 := hP.cell 0; have u1 := hP.cell 1; have u2' := hP.cell 2
                  simp at u0 u1 u2'
                  have r2 := HKC.out Y HbY.out
                  clear hY hP
                  have hHas : ∀ nq, Calls Try.prog 26 #[.pointer (some ⟨gr, 0, none⟩), .int .i64 j] (Y.drewN nq) fun e w' => e = .returned (.bool false) ∧ w' = Y.drewN nq := fun nq => by
                    have h7 := refHas_any Sr gr ps' cs' j (Y.drewN nq) (HRr.out.below (below_drewN HbY.out nq))
                    rw [Hhb.out] at h7
                    exact h7.mono fun _ _ h => ⟨h.1, h.2.symm⟩
                  have HHas := Lib.hid hHas
                  clear hHas
                  go_quiet ((go_at_call 26; exact Calls.quiet_of_same (HHas.out _)))
                  go_wp2_with fail
                  go_roundw
                  case rel => exact ⟨j + 1, by omega, by omega, by omega, rfl, Lib.hid (below_drewN HbY.out _)⟩
                  case measure => simp [intOf] <;> omega
              · have hc3 : (ps'.length : Int) < j ∨ j ≤ (ps'.length : Int) ∧ (40 : Int) ≤ j := by omega
                have hfin : At W g gr (k + 1) wr := at_mk (HTr.out.under Hbw.out) (Nat.le_refl _) HAg2.out hp' hc'
                have HF := Lib.hid hfin
                clear hin hfin
                rcases hc3 with hc3 | ⟨hc3, hc4⟩
                all_goals
                  go_wp2_with fail
                  go_roundw
                  case rel => exact ⟨k + 1, by omega, by go_num, HF⟩
                  case measure => simp [intOf] <;> omega
      · skip
        obtain rfl : k = n := by omega
        have hd5 : decide (k < k) = false := by simp
        obtain ⟨ps, cs, C, hT, _⟩ := HK.out
        have Hb := Lib.hid hT.bel
        clear hT hlt
        go_wp2_with fail
        refine (alive20_any _).mono ?_
        rintro e w2 ⟨rfl, hb2⟩
        go_wp2_with fail
        go_ret
        exact ⟨rfl, Hb.out.trans (hb2.mono Hb.out.size)⟩
end Go.Proofs.Ytadhboioaacaeaa
