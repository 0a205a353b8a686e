/- The statements' book: lists of entries (printed by mkbook.py). -/
import Derived.Test.YtfkkcgdniepgoaaGreatJTableMerges12
import Derived.Test.YtfkkcgdniepgoaaGreatCTableMergesBelowS
import Derived.Deep.DeepCutAuto
import Derived.Deep.RegionLaw
import Derived.Test.YtfkkcgdniepgoaaGreatCTableMergesCopy

namespace Go.Proofs.YtfkkcgdniepgoaaGreat
open Go.RowKit
set_option maxHeartbeats 4000000
set_option maxRecDepth 100000
set_option linter.unusedVariables false

theorem marksE_form (i k n : Nat) : ∃ ss : List En, marksOf mkE i k n = enVs ss := by
  refine ⟨(List.range n).map fun q => eltE i (k + q), ?_⟩
  induction n with
  | zero => rfl
  | succ n ih =>
    rw [marksOf_succ, ih, List.range_succ, List.map_append]
    simp [enVs, mkE]
theorem marksE_len (i k n : Nat) : (marksOf mkE i k n).length = n * 3 := marksOf_length mkE_length i k n
theorem markE_get (i n q j : Nat) (hq : q < n) (hj : j < 3) : (marksOf mkE i 0 n)[q * 3 + j]? = (mkE i q)[j]? := by
  have h1 : (marksOf mkE i 0 n).take ((q + 1) * 3) = marksOf mkE i 0 q ++ mkE i q := by
    rw [marksOf_take mkE_length i 0 n (q + 1) (by omega), marksOf_succ, Nat.zero_add]
  have h2 : (marksOf mkE i 0 n)[q * 3 + j]? = ((marksOf mkE i 0 n).take ((q + 1) * 3))[q * 3 + j]? := by
    rw [List.getElem?_take, if_pos (by omega)]
  rw [h2, h1, List.getElem?_append_right (by rw [marksE_len]; omega), marksE_len]
  congr 1; omega
theorem markedEntries_any (A : Option Addr) (N c : Nat) (vs : List Value) (w : World) (hr : SlR w w.heap.size 1 A N vs) (hs : ∀ (k : Nat) (v : Value), vs[k]? = some v → ∃ n, n ≤ 2000000 ∧ Shows w 3 v (marksOf mkE k 0 n)) (hN : N ≤ 1000) :
    Calls Tryz.prog 73 #[.slice A N c] w fun e w' => e = .returned (.bool true) ∧ Below w.heap.size w w' := by
  have Hr := Lib.hid hr; have Hs := Lib.hid hs
  clear hr hs
  go_enter Tryz.func73, Tryz.ntmps73
  go_wp2_with fail
  go_loopw [3] (fun i wr => ∃ k : Nat, k ≤ N ∧ i = .int .i64 k ∧ Below w.heap.size w wr) (fun i _ => N - (intOf i).toNat)
  case atStart => exact ⟨0, Nat.zero_le _, rfl, Below.refl _ _⟩
  case round =>
    obtain ⟨k, hk, rfl, hb⟩ := hrel
    by_cases hlt : k < N
    · obtain ⟨ad, u, hA, had, hu, hcell0⟩ := Hr.out.get hlt
      subst hA
      obtain ⟨n, hn, hsh⟩ := Hs.out k u hu
      have hsh2 := hsh.below hb
      have hcell : wr.cell? (ad.add k) = some u := (hb.cell (p := ad.add k) (by rw [add_block]; exact had)).trans hcell0
      have hadw : (ad.add k).block < wr.heap.size := by rw [add_block]; exact Nat.lt_of_lt_of_le had hb.size
      have i1 : (k : Int) < (N : Int) := by omega
      have i0 : 0 ≤ (k : Int) := by omega
      obtain ⟨B1, n1, c1, rfl, hn1, _⟩ := hsh2.form
      rw [marksE_len] at hn1
      obtain rfl : n = n1 := by omega
      have Hsh := Lib.hid hsh2
      clear hsh hsh2 hu hcell0 hn1
      have hk9 : k ≤ 1000000000 := by omega
      have hn9 : 0 + n ≤ 1000000000 := by omega
      have hln : (marksOf mkE k 0 n).length ≤ 1000000000 := by rw [marksE_len]; omega
      have hfm := marksE_form k 0 n
      have Hfm := Lib.hid hfm; clear hfm
      go_wp2_with fail
      go_region_held3 (fun wx => wx.cell? (ad.add k) = some (.slice B1 n c1)) (first | go_keep | exact hcell2 | exact hcell)
        ((first
          | (go_at_call 107; refine (markEntries_any k 0 n _ hk9 hn9).mono ?_; rintro e w2 ⟨v2, rfl, hv2, hb2⟩; have hbb2 : Below wr.heap.size wr w2 := (by first | exact hb2 | exact below_undrew hb2 | exact below_undrewN hb2); have hcell2 : w2.cell? (ad.add k) = some (.slice B1 n c1) := ((hbb2.cell (p := ad.add k) hadw).trans hcell); have hSv := Lib.hid (Shows.own hv2); have hSu := Lib.hid (Hsh.out.below hbb2); clear hv2 hb2)
          | (go_at_call 21; refine (sameEntries_shows _ _ (marksOf mkE k 0 n) _ (by first | exact hSu.out | exact hSu.out.drew | exact hSu.out.drewN _) (by first | exact hSv.out | exact hSv.out.drew | exact hSv.out.drewN _) Hfm.out hln).mono ?_; rintro e w3 ⟨rfl, k3, rfl⟩)))
      go_wp2_with fail
      go_roundw
      case rel => exact ⟨k + 1, by omega, by go_num, below_drewN (hb.trans (hbb2.mono hb.size)) _⟩
      case measure => simp [intOf]; omega
    · obtain rfl : k = N := by omega
      have hd : decide (k < k) = false := by simp
      go_wp2_with fail
      go_ret
      exact ⟨rfl, hb⟩
/-- the lists of which the first k are marked -/
def PutE (k : Nat) (xss yss : List (List Value)) : Prop := yss.length = xss.length ∧ ∀ (j : Nat) (xs ys : List Value), xss[j]? = some xs → yss[j]? = some ys → ys.length = xs.length ∧ (j < k → ys = marksOf mkE j 0 (xs.length / 3))
theorem marks_setE (i n q : Nat) (ys : List Value) (hl : ys.length = n * 3) (hq : q < n) :
    setM ((marksOf mkE i 0 n).take (q * 3) ++ ys.drop (q * 3)) (q * 3) (mkE i q) = (marksOf mkE i 0 n).take ((q + 1) * 3) ++ ys.drop ((q + 1) * 3) := by
  have hml := marksE_len i 0 n
  have h1 : ((marksOf mkE i 0 n).take (q * 3)).length = q * 3 := by rw [List.length_take]; omega
  have h2 : (marksOf mkE i 0 n).take ((q + 1) * 3) = (marksOf mkE i 0 n).take (q * 3) ++ mkE i q := by
    rw [marksOf_take mkE_length i 0 n (q + 1) (by omega), marksOf_take mkE_length i 0 n q (by omega), marksOf_succ, Nat.zero_add]
  rw [setM_eq _ _ _ (by rw [List.length_append, h1, List.length_drop, mkE_length]; omega), List.take_left' h1, mkE_length, h2, List.drop_append, h1, List.drop_of_length_le (by omega), List.nil_append, List.drop_drop]
  congr 2; omega

theorem putEntries_any (g base : Nat) (cs : Array Value) (tv : Value) (vs : List Value) (xss : List (List Value)) (w : World)
    (hB : BlkIs w g 40 cs) (h0 : cs[6]? = some tv) (hbs : base ≤ w.heap.size) (hrt : w.ownsRow base 22 1 tv vs.length vs) (hL : Lists w base 53 3 vs xss) (hfew : ∀ xs ∈ xss, xs.length ≤ 3000000) (hl : vs.length ≤ 250) :
    Calls Tryz.prog 62 #[.pointer (some ⟨g, 0, none⟩)] w fun e w' => e = .returned (.tuple #[]) ∧
      BlkIs w' g 40 cs ∧ w'.ownsRow base 22 1 tv vs.length vs ∧ (∃ yss, Lists w' base 53 3 vs yss ∧ PutE vs.length xss yss) ∧ BelowS (OwnS vs) base w w' := by
  obtain ⟨At, ct, rfl, hct⟩ := own_slice hrt
  have HB := Lib.hid hB; have H0 := Lib.hid h0; have Hrt := Lib.hid hrt; have HL := Lib.hid hL; have Hfew := Lib.hid hfew
  clear hB h0 hrt hL hfew
  obtain ⟨N, hN⟩ : ∃ N, vs.length = N := ⟨_, rfl⟩
  have hc0 : w.cell? ⟨g, 6, none⟩ = some (.slice At vs.length ct) := (HB.out.cell 6).trans H0.out
  rw [hN] at hc0 hl hct Hrt H0 ⊢
  have HN := Lib.hid hN; clear hN
  go_enter Tryz.func62, Tryz.ntmps62
  go_wp2_with fail
  go_loopw [2] (fun i wr => ∃ (k : Nat) (yss : List (List Value)), k ≤ N ∧ i = .int .i64 k ∧ BlkIs wr g 40 cs ∧ wr.ownsRow base 22 1 (.slice At N ct) N vs ∧ Lists wr base 53 3 vs yss ∧ PutE k xss yss ∧ BelowS (OwnS vs) base w wr) (fun i _ => N - (intOf i).toNat)
  case atStart => exact ⟨0, xss, Nat.zero_le _, rfl, HB.out, Hrt.out, HL.out, ⟨rfl, fun j xs ys h1 h2 => by rw [h1] at h2; injection h2 with h2; subst h2; exact ⟨rfl, fun h => by omega⟩⟩, BelowS.refl _ _ _⟩
  case round =>
    obtain ⟨k, yss, hk, rfl, hBr, hrr, hLr, hput, hb⟩ := hrel
    have hc0r : wr.cell? ⟨g, 6, none⟩ = some (.slice At N ct) := (hBr.cell 6).trans H0.out
    by_cases hlt : k < N
    · obtain ⟨ad, u, hA, had, hu, hcell⟩ := (SlR.own hrr).get (k := k) hlt
      subst hA
      obtain ⟨ys, hy⟩ := get_of_len hLr.len hu
      obtain ⟨xs, hx⟩ := get_of_len (hput.1) hy
      obtain ⟨n1, hown⟩ := hLr.own k u ys hu hy
      obtain ⟨B1, c1, rfl, hnc1⟩ := own_slice hown
      have hyl : ys.length = n1 * 3 := hown.1
      have hxl : xs.length = n1 * 3 := by have := (hput.2 k xs ys hx hy).1; omega
      have hn1 : n1 ≤ 1000000 := by have := Hfew.out xs (List.mem_of_getElem? hx); omega
      have i1 : (k : Int) < (N : Int) := by omega
      have i0 : 0 ≤ (k : Int) := by omega
      have HBr := Lib.hid hBr; have Hrr := Lib.hid hrr; have HLr := Lib.hid hLr; have Hput := Lib.hid hput; have Hu := Lib.hid hu; have Hy := Lib.hid hy; have Hx := Lib.hid hx; have Hyl := Lib.hid hyl; have Hxl := Lib.hid hxl; have Hown := Lib.hid hown
      have hk9 : k ≤ 1000000000 := by omega
      have hn9 : 0 + n1 ≤ 1000000000 := by omega
      have hgr := hBr.lt
      clear hBr hrr hLr hput hu hy hx hyl hxl hown
      go_wp2_with fail
      refine (markEntries_any k 0 n1 _ hk9 hn9).mono ?_
      rintro e w1 ⟨mv, rfl, hm1, hb1⟩
      obtain ⟨Am, cm, rfl, hcm⟩ := own_slice hm1
      obtain ⟨H, hH⟩ : ∃ H, wr.heap.size = H := ⟨_, rfl⟩
      have hB1 := HBr.out.below hb1 HBr.out.lt
      have hr1 := own_below Hrr.out hb1 (fun q hq => (Hrr.out.lt q hq).2)
      have hL1 := HLr.out.below hb1 (Nat.le_refl _)
      have hbw1 := hb.next hb1 (Nat.le_trans hbs hb.size)
      have HH : ∀ (j : Nat) (v : Value) (b : Nat), vs[j]? = some v → v.ownBlock = some b → b < H := fun j v b hv hb => by rw [← hH]; exact (HLr.out.lt hv hb).2
      have hy1 : (marksOf mkE k 0 n1).take (0 * 3) ++ ys.drop (0 * 3) = ys := by simp
      rw [hH] at hm1
      have HB1 := Lib.hid hB1; have Hr1 := Lib.hid hr1; have HL1 := Lib.hid hL1; have Hbw1 := Lib.hid hbw1; have Hm1 := Lib.hid hm1; have HHh := Lib.hid HH
      have Hset : Hid (yss.set k ((marksOf mkE k 0 n1).take (0 * 3) ++ ys.drop (0 * 3)) = yss) := Lib.hid (by
        rw [hy1]
        apply List.ext_getElem?
        intro j
        rw [List.getElem?_set]
        split
        · rename_i e; subst e; rw [Hy.out]; split
          · rfl
          · rename_i h; exact absurd (List.getElem?_eq_some_iff.1 Hy.out).1 h
        · rfl)
      clear hB1 hr1 hL1 hbw1 hm1 HH hy1 hH hb1 hc0r hcell
      go_wp2_with fail
      go_loopw [4] (fun q wr => ∃ p : Nat, p ≤ n1 ∧ q = .int .i64 p ∧ BlkIs wr g 40 cs ∧ wr.ownsRow base 22 1 (.slice (some ad) N ct) N vs ∧ Lists wr base 53 3 vs (yss.set k ((marksOf mkE k 0 n1).take (p * 3) ++ ys.drop (p * 3))) ∧ wr.ownsRow H 53 3 (.slice Am n1 cm) n1 (marksOf mkE k 0 n1) ∧ BelowS (OwnS vs) base w wr) (fun q _ => n1 - (intOf q).toNat)
      case atStart => exact ⟨0, Nat.zero_le _, rfl, HB1.out, Hr1.out, by rw [Hset.out]; exact HL1.out, Hm1.out, Hbw1.out⟩
      case round =>
        obtain ⟨p, hp, rfl, hB2, hr2, hL2, hm2, hb2⟩ := hrel
        by_cases hlp : p < n1
        · obtain ⟨g1, cap1, hform, hg1b, hg1l⟩ := Hown.out.form (show 0 < n1 by omega)
          obtain rfl : B1 = some ⟨g1, 0, none⟩ := by injection hform
          have hgH : g1 < H := HHh.out k _ g1 Hu.out rfl
          have hg1base : base ≤ g1 := (HLr.out.lt Hu.out (g := g1) rfl).1
          obtain ⟨gm, capm, hformm, hgmb, hgml⟩ := hm2.form (show 0 < n1 by omega)
          obtain rfl : Am = some ⟨gm, 0, none⟩ := by injection hformm
          obtain ⟨yq, hyq⟩ := get_of_len hL2.len Hu.out
          have hyq2 : yq = (marksOf mkE k 0 n1).take (p * 3) ++ ys.drop (p * 3) := by
            rcases set_get _ _ _ _ _ hyq with ⟨_, h⟩ | ⟨h, _⟩
            · exact h
            · exact absurd rfl h
          subst hyq2
          obtain ⟨n2, hown2⟩ := hL2.own k _ _ Hu.out hyq
          obtain rfl : n2 = n1 := by
            have h1 := hown2.1
            rw [List.length_append, List.length_take, List.length_drop, marksE_len, Hyl.out] at h1
            omega
          obtain ⟨ad', u', hA', _, hu', hcell2⟩ := (SlR.own hr2).get (k := k) hlt
          cases hA'
          rw [Hu.out] at hu'
          injection hu' with hu'
          subst hu'
          have hc02 : wr.cell? ⟨g, 6, none⟩ = some (.slice (some ad) N ct) := (hB2.cell 6).trans H0.out
          have hm0 := (hm2.cellAt (p * 3) (by omega)).trans (markE_get k n2 p 0 hlp (by omega))
          have hm1' := (hm2.cellAt (p * 3 + 1) (by omega)).trans (markE_get k n2 p 1 hlp (by omega))
          have hm2' := (hm2.cellAt (p * 3 + 2) (by omega)).trans (markE_get k n2 p 2 hlp (by omega))
          have hmset := marks_setE k n2 p ys Hyl.out hlp
          have hlen2 : ((marksOf mkE k 0 n2).take (p * 3) ++ ys.drop (p * 3)).length = n2 * 3 := hown2.1
          have hol : ∀ j, j < n2 * 3 → ∃ x, wr.cell? ⟨g1, j, none⟩ = some x := fun j hj => ⟨_, (hown2.cellAt j (by omega)).trans (List.getElem?_eq_getElem (by rw [hlen2]; omega))⟩
          obtain ⟨o0, ho0⟩ := hol (p * 3) (by omega)
          obtain ⟨o1, ho1⟩ := hol (p * 3 + 1) (by omega)
          obtain ⟨o2, ho2⟩ := hol (p * 3 + 2) (by omega)
          have hfo0 := own_free hown2 (g := g1) rfl (p * 3)
          have hfo1 := own_free hown2 (g := g1) rfl (p * 3 + 1)
          have hfo2 := own_free hown2 (g := g1) rfl (p * 3 + 2)
          have hne : g ≠ g1 := fun e => own_ne_blk hown2 hB2 (by decide) (by rw [e]; rfl)
          have hnm : gm ≠ g1 := by have := (hm2.lt gm rfl).1; omega
          have hnr : ∀ b, b = g1 → (Value.slice (some ad) N ct).ownBlock ≠ some b := fun b e h => by subst e; exact rows_apart hr2 hown2 (by decide) b h rfl
          have hset := own_setM (mkE k p) _ (p * 3) wr hown2
          rw [hmset] at hset
          obtain ⟨hset1, hset2⟩ := hset
          have hput2 := hL2.upd (i := k) Hu.out hset1 hset2 (.inl rfl)
          rw [set_same vs k _ Hu.out, List.set_set] at hput2
          have j1 : (p : Int) < (n2 : Int) := by omega
          have j0 : 0 ≤ (p : Int) := by omega
          have had2 : (ad.add k).block ≠ g1 := by
            rw [add_block]
            intro e
            obtain ⟨gg, cc, hf, _, _⟩ := hr2.form (show 0 < N by omega)
            obtain rfl : ad = ⟨gg, 0, none⟩ := by injection hf with h1; injection h1
            exact hnr gg e rfl
          obtain ⟨W5, hW5⟩ : ∃ W5, W5 = wr.setCells g1 (p * 3) (mkE k p) := ⟨_, rfl⟩
          rw [← hW5] at hset1 hset2 hput2
          have hw1 := hB2.grown hset2 (by simpa [Value.ownBlock] using hne)
          have hw2 := own_grown hr2 hset2 (fun b hb e => hnr b (by simpa [Value.ownBlock] using e.symm) hb)
          have hw3 := own_grown hm2 hset2 (fun b hb e => hnm (by
            have h1 : gm = b := by simpa [Value.ownBlock] using hb
            have h2 : g1 = b := by simpa [Value.ownBlock] using e
            rw [h1, h2]))
          have hw4 : BelowS (OwnS vs) base w W5 := hb2.grown hset2 (by have := hb2.size; omega) (fun b hb => by
            have h2 : g1 = b := by simpa [Value.ownBlock] using hb
            omega) (fun b hb => .inl ⟨k, _, Hu.out, hb⟩)
          simp only [mkE, enC, eltE] at hW5 hm0 hm1' hm2'
          have HW5 := Lib.hid hW5
          have Hw1 := Lib.hid hw1; have Hw2 := Lib.hid hw2; have Hw3 := Lib.hid hw3; have Hw4 := Lib.hid hw4; have Hp2 := Lib.hid hput2
          clear hw1 hw2 hw3 hw4 hput2 hmset hyq hown2 hB2 hr2 hL2 hm2 hnr hb2 hform hformm hset1 hset2 hW5 hlen2 hol
          simp at hm0 hm1' hm2'
          go_wp2_with fail
          go_region_law (fail)
          all_goals
            go_wp2_with fail
            go_roundw
            case rel =>
              have q1 := Hw1.out; have q2 := Hw2.out; have q3 := Hp2.out; have q4 := Hw3.out; have q5 := Hw4.out
              rw [HW5.out] at q1 q2 q3 q4 q5
              exact ⟨p + 1, by omega, by go_num, q1.drew, q2, q3.drewN 1, q4, q5.drewN 1⟩
            case measure => simp [intOf]; omega
        · obtain rfl : p = n1 := by omega
          have hd : decide (p < p) = false := by simp
          have hfin : (marksOf mkE k 0 p).take (p * 3) ++ ys.drop (p * 3) = marksOf mkE k 0 p := by rw [List.take_of_length_le (by rw [marksE_len]; exact Nat.le_refl _), List.drop_of_length_le (by rw [Hyl.out]; exact Nat.le_refl _), List.append_nil]
          rw [hfin] at hL2
          have hputn : PutE (k + 1) xss (yss.set k (marksOf mkE k 0 p)) := by
            refine ⟨by rw [List.length_set]; exact Hput.out.1, fun j xs' ys' h1 h2 => ?_⟩
            rcases set_get _ _ _ _ _ h2 with ⟨e1, e2⟩ | ⟨e1, h3⟩
            · subst e1 e2
              rw [Hx.out] at h1
              injection h1 with h1
              subst h1
              exact ⟨by rw [marksE_len, Hxl.out], fun _ => by rw [Hxl.out, Nat.mul_div_cancel _ (by omega)]⟩
            · have := Hput.out.2 j xs' ys' h1 h3
              exact ⟨this.1, fun h => this.2 (by omega)⟩
          have HL2 := Lib.hid hL2; have Hputn := Lib.hid hputn; have Hb2 := Lib.hid hb2; have HB2 := Lib.hid hB2; have Hr2 := Lib.hid hr2
          clear hL2 hputn hb2 hB2 hr2 hm2 hfin
          go_wp2_with fail
          go_roundw
          case rel => exact ⟨k + 1, _, by omega, by go_num, HB2.out, Hr2.out, HL2.out, Hputn.out, Hb2.out⟩
          case measure => simp [intOf]; omega
    · obtain rfl : k = N := by omega
      have hd : decide (k < k) = false := by simp
      go_wp2_with fail
      go_end0
      exact ⟨rfl, hBr, hrr, ⟨yss, hLr, hput⟩, hb⟩
end Go.Proofs.YtfkkcgdniepgoaaGreat

/- The statements' book: lists of entries (printed by mkbook.py). -/
namespace Go.Proofs.YtfkkcgdniepgoaaGreat
open Go.RowKit
set_option maxHeartbeats 4000000
set_option maxRecDepth 100000
set_option linter.unusedVariables false

/-- the lists of which the first k are grown by 72 marks -/
def GrownE (k : Nat) (mss gss : List (List Value)) : Prop := gss.length = mss.length ∧ ∀ (j : Nat) (xs gs : List Value), mss[j]? = some xs → gss[j]? = some gs → (j < k → gs = marksOf mkE j 0 (xs.length / 3 + 72)) ∧ (k ≤ j → gs = xs)
theorem growEntries_any (g base : Nat) (cs : Array Value) (tv : Value) (vs : List Value) (mss : List (List Value)) (w : World)
    (hB : BlkIs w g 40 cs) (h0 : cs[6]? = some tv) (hbs : base ≤ w.heap.size) (hrt : w.ownsRow base 22 1 tv vs.length vs) (hL : Lists w base 53 3 vs mss) (hmk : ∀ (j : Nat) (xs : List Value), mss[j]? = some xs → xs = marksOf mkE j 0 (xs.length / 3) ∧ xs.length ≤ 3000000) (hl : vs.length ≤ 250) :
    Calls Tryz.prog 67 #[.pointer (some ⟨g, 0, none⟩)] w fun e w' => ∃ ov us gss, e = .returned ov ∧
      BlkIs w' g 40 cs ∧ w'.ownsRow base 22 1 tv vs.length vs ∧ w'.ownsRow base 22 1 ov vs.length us ∧ Lists w' base 53 3 us gss ∧ GrownE vs.length mss gss ∧ Views w' 3 vs us mss ∧ BelowS (OwnS vs) base w w' := by
  obtain ⟨i0, hi0, hz0, hz1, hz2⟩ := info_parts info_E
  obtain ⟨j0, hj0, hy0, hy1, hy2⟩ := info_parts info_lE
  obtain ⟨At, ct, rfl, hct⟩ := own_slice hrt
  have hvw := Views.start hL
  have HB := Lib.hid hB; have H0 := Lib.hid h0; have Hrt := Lib.hid hrt; have HL := Lib.hid hL; have Hmk := Lib.hid hmk; have Hvw := Lib.hid hvw
  clear hB h0 hrt hL hmk hvw
  obtain ⟨N, hN⟩ : ∃ N, vs.length = N := ⟨_, rfl⟩
  have hc0 : w.cell? ⟨g, 6, none⟩ = some (.slice At vs.length ct) := (HB.out.cell 6).trans H0.out
  rw [hN] at hc0 hl hct Hrt H0 ⊢
  have HN := Lib.hid hN; clear hN
  obtain ⟨H, hH⟩ : ∃ H, w.heap.size = H := ⟨_, rfl⟩
  have hbH : base ≤ H := by omega
  have HH := Lib.hid hH
  have htH : ∀ b, (Value.slice At N ct).ownBlock = some b → b < H := fun b hb => by rw [← hH]; exact (Hrt.out.lt b hb).2
  have HtH := Lib.hid htH
  clear hH htH
  go_enter Tryz.func67, Tryz.ntmps67
  go_wp2_with fail
  go_loopw [3, 4] (fun o i wr => ∃ (k : Nat) (ov : Value) (us : List Value) (gss : List (List Value)), ov = o ∧ k ≤ N ∧ i = .int .i64 k ∧ BlkIs wr g 40 cs ∧ wr.ownsRow base 22 1 (.slice At N ct) N vs ∧ wr.ownsRow H 22 1 ov k (us.take k) ∧
      Lists wr base 53 3 us gss ∧ GrownE k mss gss ∧ Views wr 3 vs us mss ∧ (∀ j, k ≤ j → us[j]? = vs[j]?) ∧ BelowS (OwnS vs) base w wr ∧ H ≤ wr.heap.size) (fun _ i _ => N - (intOf i).toNat)
  case atStart => exact ⟨0, _, vs, mss, rfl, Nat.zero_le _, rfl, HB.out, Hrt.out, World.ownsRow_nil _ _ _ _, HL.out, ⟨rfl, fun j xs gs h1 h2 => by rw [h1] at h2; injection h2 with h2; subst h2; exact ⟨fun h => by omega, fun _ => rfl⟩⟩, Hvw.out, fun _ _ => rfl, BelowS.refl _ _ _, Nat.le_of_eq HH.out.symm⟩
  case round =>
    obtain ⟨k, ov, us, gss, rfl, hk, rfl, hBr, hrr, hor, hLr, hgr, hvr, hus, hb, hHr⟩ := hrel
    have hc0r : wr.cell? ⟨g, 6, none⟩ = some (.slice At N ct) := (hBr.cell 6).trans H0.out
    by_cases hlt : k < N
    · obtain ⟨ad, u, hA, had, hu, hcell⟩ := (SlR.own hrr).get (k := k) hlt
      subst hA
      have huu : us[k]? = some u := (hus k (Nat.le_refl _)).trans hu
      obtain ⟨gs, hgs⟩ := get_of_len hLr.len huu
      obtain ⟨ms, hms⟩ := get_of_len hgr.1 hgs
      obtain rfl : gs = ms := (hgr.2 k ms gs hms hgs).2 (Nat.le_refl _)
      obtain ⟨hme, hms9⟩ := Hmk.out k gs hms
      obtain ⟨n, hn⟩ : ∃ n, gs.length / 3 = n := ⟨_, rfl⟩
      rw [hn] at hme
      subst hme
      rw [marksE_len] at hms9
      have hms9 : n ≤ 1000000 := by omega
      obtain ⟨n1, hown⟩ := hLr.own k u _ huu hgs
      obtain ⟨B1, c1, rfl, hnc1⟩ := own_slice hown
      obtain rfl : n1 = n := by have := hown.1; rw [marksE_len] at this; omega
      have hku : k < us.length := (List.getElem?_eq_some_iff.1 huu).1
      have hkg : k < gss.length := (List.getElem?_eq_some_iff.1 hgs).1
      have i1 : (k : Int) < (N : Int) := by omega
      have ik0 : 0 ≤ (k : Int) := by omega
      have hu1 : us.set k (.slice B1 n1 c1) = us := set_same us k _ huu
      have hg1 : gss.set k (marksOf mkE k 0 (n1 + 0)) = gss := set_same gss k _ hgs
      have HBr := Lib.hid hBr; have Hrr := Lib.hid hrr; have Hor := Lib.hid hor; have HLr := Lib.hid hLr; have Hgr := Lib.hid hgr; have Hvr := Lib.hid hvr; have Hus := Lib.hid hus; have Hms := Lib.hid hms; have Hu1 := Lib.hid hu1; have Hg1 := Lib.hid hg1
      have Hns := Lib.hid (show ∀ b, (Value.slice B1 n1 c1).ownBlock = some b → OwnS vs b ∨ w.heap.size ≤ b from fun b hb => .inl ⟨k, _, hu, hb⟩)
      have hk9 : k ≤ 1000000000 := by omega
      clear hBr hrr hor hLr hgr hvr hus hms hu1 hg1 hu huu hgs hown had hn
      go_wp2_with fail
      go_loopw [5, 6] (fun l q wr => ∃ (p : Nat) (u : Value), u = l ∧ p ≤ 12 ∧ q = .int .i64 p ∧ BlkIs wr g 40 cs ∧ wr.ownsRow base 22 1 (.slice (some ad) N ct) N vs ∧ wr.ownsRow H 22 1 ov k (us.take k) ∧
          Lists wr base 53 3 (us.set k u) (gss.set k (marksOf mkE k 0 (n1 + p))) ∧ Views wr 3 vs (us.set k u) mss ∧ BelowS (OwnS vs) base w wr ∧ H ≤ wr.heap.size ∧ (∀ b, u.ownBlock = some b → OwnS vs b ∨ w.heap.size ≤ b)) (fun _ q _ => 12 - (intOf q).toNat)
      case atStart => exact ⟨0, _, rfl, Nat.zero_le _, rfl, HBr.out, Hrr.out, Hor.out, by rw [Hu1.out, Hg1.out]; exact HLr.out, by rw [Hu1.out]; exact Hvr.out, hb, hHr, Hns.out⟩
      case round =>
        obtain ⟨p, u, rfl, hp, rfl, hB2, hr2, ho2, hL2, hv2, hb2, hH2, hn2⟩ := hrel
        have Hn2 := Lib.hid hn2
        clear hn2
        obtain ⟨m, hown2⟩ := hL2.own k u _ (set_at us k u hku) (set_at gss k _ hkg)
        obtain ⟨B2, c2, rfl, hnc2⟩ := own_slice hown2
        obtain rfl : m = n1 + p := by have := hown2.1; rw [marksE_len] at this; omega
        by_cases hlp : p < 12
        · have hq1 : (p : Int) < 12 := by omega
          have hk9b : n1 + p + 1 ≤ 1000000000 := by omega
          obtain ⟨q, hq⟩ : ∃ q : Nat, n1 + p = q := ⟨_, rfl⟩
          have HB2 := Lib.hid hB2; have Hr2 := Lib.hid hr2; have Ho2 := Lib.hid ho2; have HL2 := Lib.hid hL2; have Hv2 := Lib.hid hv2; have Hown2 := Lib.hid hown2
          rw [hq] at Hown2 HL2 Hv2 hk9b Hn2 ⊢
          have Hq := Lib.hid hq
          have hq6 : q ≤ 1000012 := by omega
          clear hB2 hr2 ho2 hL2 hv2 hown2 hq hc0r hcell
          go_wp2_with fail
          refine (markEntries_any k q 1 _ hk9 hk9b).mono ?_
          rintro e w1 ⟨mv, rfl, hm1, hb1⟩
          obtain ⟨Am, cm, rfl, hcm⟩ := own_slice hm1
          have hB3 := HB2.out.below hb1 HB2.out.lt
          have hr3 := own_below Hr2.out hb1 (fun q hq => (Hr2.out.lt q hq).2)
          have ho3 := own_below Ho2.out hb1 (fun q hq => (Ho2.out.lt q hq).2)
          have hL3 := HL2.out.below hb1 (Nat.le_refl _)
          have hv3 := Hv2.out.below hb1 (Nat.le_refl _)
          have hown3 := own_below Hown2.out hb1 (fun q hq => (Hown2.out.lt q hq).2)
          have hb3 := hb2.next hb1 (Nat.le_trans hbs hb2.size)
          have hH3 : H ≤ w1.heap.size := Nat.le_trans hH2 hb1.size
          have hsm := SlR.own hm1
          have HB3 := Lib.hid hB3; have Hr3 := Lib.hid hr3; have Ho3 := Lib.hid ho3; have HL3 := Lib.hid hL3; have Hv3 := Lib.hid hv3; have Hown3 := Lib.hid hown3; have Hsm := Lib.hid hsm; have Hb3 := Lib.hid hb3
          clear hB3 hr3 ho3 hL3 hv3 hown3 hsm hm1 hb1 hb3
          go_wp2_with (at_builtin; refine wpList_append_fine _ rfl (.tmp 27) (.tmp 31) _ rfl base 53 i0 _ 3 24 Tryz.underlying22 hi0 hz0 hz1 hz2 rfl (by omega) (.slice B2 q c2) q (marksOf mkE k 0 q) rfl Hown3.out w1.heap.size Am 1 cm (marksOf mkE k q 1) rfl Hsm.out (marksOf_one mkE_one k q 1) (by simp only [maxLen]; omega) (by omega) (by omega) ?_; intro v4 w4 hown4 hgrow4 hat4 hold4)
          have hne4 : (Value.slice B2 q c2).ownBlock ≠ some g := own_ne_blk Hown3.out HB3.out (by decide)
          have hB4 := HB3.out.grown hgrow4 (Ne.symm hne4)
          have hr4 := own_grown Hr3.out hgrow4 (fun b hb e => rows_apart Hr3.out Hown3.out (by decide) b hb e)
          have ho4 := own_grown Ho3.out hgrow4 (fun b hb e => rows_apart Ho3.out Hown3.out (by decide) b hb e)
          have hL4 := HL3.out.upd (i := k) (set_at us k _ hku) hown4 hgrow4 hat4
          have hv4 := Hv3.out.upd (i := k) (u1 := v4) (set_at us k _ hku) (fun xs hx => by rw [Hms.out] at hx; injection hx with hx; subst hx; rw [marksE_len]; have := Hq.out; omega) hold4 hgrow4 hat4
          rw [List.set_set] at hv4
          rw [List.set_set, List.set_set, show marksOf mkE k 0 q ++ marksOf mkE k q 1 = marksOf mkE k 0 (n1 + (p + 1)) from by rw [← Nat.add_assoc, Hq.out, marksOf_add, Nat.zero_add]] at hL4
          have hb4 : BelowS (OwnS vs) base w w4 := Hb3.out.grown hgrow4 (by omega) (fun b hb => (Hown3.out.lt b hb).1) Hn2.out
          have hn4 : ∀ b, v4.ownBlock = some b → OwnS vs b ∨ w.heap.size ≤ b := fun b hb => by
            rcases hat4 with h4 | h4
            · exact Hn2.out b (h4 ▸ hb)
            · rw [h4] at hb; injection hb with hb; subst hb; exact .inr Hb3.out.size
          have Hn4 := Lib.hid hn4
          clear hn4
          have hH4 : H ≤ w4.heap.size := Nat.le_trans hH3 hgrow4.size
          have HB4 := Lib.hid hB4; have Hr4 := Lib.hid hr4; have Ho4 := Lib.hid ho4; have HL4 := Lib.hid hL4; have Hv4 := Lib.hid hv4; have Hb4 := Lib.hid hb4
          clear hB4 hr4 ho4 hL4 hv4 hb4 hown4 hgrow4 hat4 hold4
          go_roundw
          case rel => exact ⟨p + 1, _, rfl, by omega, by go_num, HB4.out, Hr4.out, Ho4.out, HL4.out, Hv4.out, Hb4.out, hH4, Hn4.out⟩
          case measure => simp [intOf]; omega
        · obtain rfl : p = 12 := by omega
          have hd12 : decide ((12 : Int) < 12) = false := by decide
          have hk9b : n1 + 12 + 60 ≤ 1000000000 := by omega
          obtain ⟨q, hq⟩ : ∃ q : Nat, n1 + 12 = q := ⟨_, rfl⟩
          have HB2 := Lib.hid hB2; have Hr2 := Lib.hid hr2; have Ho2 := Lib.hid ho2; have HL2 := Lib.hid hL2; have Hv2 := Lib.hid hv2; have Hown2 := Lib.hid hown2
          rw [hq] at Hown2 HL2 Hv2 hk9b Hn2 ⊢
          have Hq := Lib.hid hq
          have hq6 : q ≤ 1000012 := by omega
          clear hB2 hr2 ho2 hL2 hv2 hown2 hq hc0r hcell
          go_wp2_with fail
          refine (markEntries_any k q 60 _ hk9 hk9b).mono ?_
          rintro e w1 ⟨mv, rfl, hm1, hb1⟩
          obtain ⟨Am, cm, rfl, hcm⟩ := own_slice hm1
          have hB3 := HB2.out.below hb1 HB2.out.lt
          have hr3 := own_below Hr2.out hb1 (fun q hq => (Hr2.out.lt q hq).2)
          have ho3 := own_below Ho2.out hb1 (fun q hq => (Ho2.out.lt q hq).2)
          have hL3 := HL2.out.below hb1 (Nat.le_refl _)
          have hv3 := Hv2.out.below hb1 (Nat.le_refl _)
          have hown3 := own_below Hown2.out hb1 (fun q hq => (Hown2.out.lt q hq).2)
          have hb3 := hb2.next hb1 (Nat.le_trans hbs hb2.size)
          have hH3 : H ≤ w1.heap.size := Nat.le_trans hH2 hb1.size
          have hsm := SlR.own hm1
          have hne4 : (Value.slice B2 q c2).ownBlock ≠ some g := own_ne_blk hown3 hB3 (by decide)
          have HB3 := Lib.hid hB3; have Hr3 := Lib.hid hr3; have Ho3 := Lib.hid ho3; have HL3 := Lib.hid hL3; have Hv3 := Lib.hid hv3; have Hown3 := Lib.hid hown3; have Hsm := Lib.hid hsm; have Hb3 := Lib.hid hb3; have Hne4 := Lib.hid hne4
          have KV : ∀ (v4 : Value) (w4 : World), w4.ownsRow base 53 3 v4 (q + 60) (marksOf mkE k 0 q ++ marksOf mkE k q 60) → w1.grownBy w4 (Value.slice B2 q c2).ownBlock → (v4.ownBlock = (Value.slice B2 q c2).ownBlock ∨ v4.ownBlock = some w1.heap.size) → OldStays w1 w4 (.slice B2 q c2) (q * 3) →
              BlkIs w4 g 40 cs ∧ w4.ownsRow base 22 1 (.slice (some ad) N ct) N vs ∧ w4.ownsRow H 22 1 ov k (us.take k) ∧ Lists w4 base 53 3 (us.set k v4) (gss.set k (marksOf mkE k 0 (n1 + 72))) ∧ Views w4 3 vs (us.set k v4) mss ∧ BelowS (OwnS vs) base w w4 ∧ H ≤ w4.heap.size := by
            intro v4 w4 hown4 hgrow4 hat4 hold4
            have hL4 := HL3.out.upd (i := k) (set_at us k _ hku) hown4 hgrow4 hat4
            have hv4 := Hv3.out.upd (i := k) (u1 := v4) (set_at us k _ hku) (fun xs hx => by rw [Hms.out] at hx; injection hx with hx; subst hx; rw [marksE_len]; have := Hq.out; omega) hold4 hgrow4 hat4
            rw [List.set_set] at hv4
            rw [List.set_set, List.set_set, show marksOf mkE k 0 q ++ marksOf mkE k q 60 = marksOf mkE k 0 (n1 + 72) from by rw [show n1 + 72 = q + 60 from by have := Hq.out; omega, marksOf_add, Nat.zero_add]] at hL4
            exact ⟨HB3.out.grown hgrow4 (Ne.symm Hne4.out), own_grown Hr3.out hgrow4 (fun b hb e => rows_apart Hr3.out Hown3.out (by decide) b hb e), own_grown Ho3.out hgrow4 (fun b hb e => rows_apart Ho3.out Hown3.out (by decide) b hb e), hL4, hv4, Hb3.out.grown hgrow4 (by omega) (fun b hb => (Hown3.out.lt b hb).1) Hn2.out, Nat.le_trans hH3 hgrow4.size⟩
          have KV := Lib.hid KV
          clear hB3 hr3 ho3 hL3 hv3 hown3 hsm hm1 hb1 hb3 hne4
          go_wp2_with (first
            | (at_builtin; refine wpList_append_fine _ rfl (.tmp 34) (.tmp 38) _ rfl base 53 i0 _ 3 24 Tryz.underlying22 hi0 hz0 hz1 hz2 rfl (by omega) (.slice B2 q c2) q (marksOf mkE k 0 q) rfl Hown3.out w1.heap.size Am 60 cm (marksOf mkE k q 60) rfl Hsm.out (marksOf_one mkE_one k q 60) (by simp only [maxLen]; omega) (by omega) (by omega) ?_; intro v4 w4 hown4 hgrow4 hat4 hold4; have hall := KV.out v4 w4 hown4 hgrow4 hat4 hold4; obtain ⟨A4, c4, rfl, hc4⟩ := own_slice hown4; obtain ⟨hB4, hr4, ho4, hL4, hv4, hb4, hH4⟩ := hall; have HB4 := Lib.hid hB4; have Hr4 := Lib.hid hr4; have Ho4 := Lib.hid ho4; have HL4 := Lib.hid hL4; have Hv4 := Lib.hid hv4; have Hb4 := Lib.hid hb4; clear hB4 hr4 ho4 hL4 hv4 hb4 hown4 hgrow4 hat4 hold4)
            | (at_builtin; refine wpList_append_lies _ rfl (.tmp 33) (.tmp 40) _ rfl H 22 j0 _ 1 24 Tryz.underlying36 hj0 hy0 hy1 hy2 rfl (by omega) ov k (us.take k) rfl (Ho4.out.alloc _) ⟨w4.heap.size, 0, none⟩ 1 1 [.slice A4 (q + 60) c4] rfl rfl (World.news_of_block (cs := #[.slice A4 (q + 60) c4]) (heap_alloc_new w4 _)) (by simp [Value.oneCell']) (by omega) (by simp only [maxLen]; omega) (by omega) (by simp <;> omega) (w4.heap.size + 1) (by simp) ?_; intro g5 c5 w5 hown5 hgrow5 hat5 hlt5))
          have hap5 : ∀ b, (Value.slice (some ad) N ct).ownBlock = some b → ov.ownBlock ≠ some b := fun b hb e => by
            have h1 := HtH.out b hb
            have h2 := (Ho4.out.lt b e).1
            omega
          have hne5 : ov.ownBlock ≠ some g := own_ne_blk Ho4.out HB4.out (by decide)
          have hB5 := (HB4.out.alloc (.cells #[.slice A4 (q + 60) c4] 22)).grown hgrow5 (Ne.symm hne5)
          have hr5 := own_grown (Hr4.out.alloc (.cells #[.slice A4 (q + 60) c4] 22)) hgrow5 (fun b hb e => hap5 b hb e)
          have hL5 := (HL4.out.alloc (.cells #[.slice A4 (q + 60) c4] 22)).keptRow (Ho4.out.alloc (.cells #[.slice A4 (q + 60) c4] 22)) (by decide) hgrow5
          have hb5 : BelowS (OwnS vs) base w w5 := (Hb4.out.alloc (Nat.le_trans hbH hH4) _).grown hgrow5 (by simp <;> omega) (fun b hb => Nat.le_trans hbH (Ho4.out.lt b hb).1) (fun b hb => .inr (by rw [HH.out]; exact (Ho4.out.lt b hb).1))
          have hv5 : Views w5 3 vs (us.set k (.slice A4 (q + 60) c4)) mss := by
            have h1 := Hv4.out.below (B := w4.heap.size) ((Below.refl _ _).alloc (Nat.le_refl _) (.cells #[.slice A4 (q + 60) c4] 22)) (Nat.le_refl _)
            refine h1.grown hgrow5 (fun j v b hv hb e => ?_)
            obtain ⟨xs, hx⟩ := get_of_len (l := vs) (m := mss) HL.out.len hv
            obtain ⟨m, ho⟩ := HL.out.own j v xs hv hx
            have h2 := (HL.out.lt hv hb).2
            have h3 := (Ho4.out.lt b e).1
            rw [HH.out] at h2
            omega
          have hgn : GrownE (k + 1) mss (gss.set k (marksOf mkE k 0 (n1 + 72))) := by
            refine ⟨by rw [List.length_set]; exact Hgr.out.1, fun j xs' gs' h1 h2 => ?_⟩
            rcases set_get _ _ _ _ _ h2 with ⟨e1, e2⟩ | ⟨e1, h3⟩
            · subst e1 e2
              rw [Hms.out] at h1
              injection h1 with h1
              subst h1
              exact ⟨fun _ => by rw [marksE_len, Nat.mul_div_cancel _ (by omega)], fun h => by omega⟩
            · have := Hgr.out.2 j xs' gs' h1 h3
              exact ⟨fun h => this.1 (by omega), fun h => this.2 (by omega)⟩
          have htk : us.take k ++ [.slice A4 (q + 60) c4] = (us.set k (.slice A4 (q + 60) c4)).take (k + 1) := (take_set_succ us k _ hku).symm
          rw [htk] at hown5
          have hus5 : ∀ j, k + 1 ≤ j → (us.set k (.slice A4 (q + 60) c4))[j]? = vs[j]? := fun j hj => by
            rw [List.getElem?_set, if_neg (by omega)]
            exact Hus.out j (by omega)
          have hH5 : H ≤ w5.heap.size := Nat.le_trans hH4 (by have := hgrow5.size; simp at this; omega)
          have HB5 := Lib.hid hB5; have Hr5 := Lib.hid hr5; have HL5 := Lib.hid hL5; have Hb5 := Lib.hid hb5; have Hv5 := Lib.hid hv5; have Hgn := Lib.hid hgn; have Hown5 := Lib.hid hown5; have Hus5 := Lib.hid hus5
          clear hap5 hne5 hB5 hr5 hL5 hb5 hv5 hgn htk hown5 hus5 hgrow5 hat5
          go_roundw
          case rel => exact ⟨k + 1, _, _, _, rfl, by omega, by go_num, HB5.out, Hr5.out, Hown5.out, HL5.out, Hgn.out, Hv5.out, Hus5.out, Hb5.out, hH5⟩
          case measure => simp [intOf]; omega
    · obtain rfl : k = N := by omega
      have hd : decide (k < k) = false := by simp
      have hul : us.length = k := by have h1 := hLr.len; have h2 := hgr.1; have h3 := HL.out.len; have := HN.out; omega
      rw [List.take_of_length_le (by omega)] at hor
      go_wp2_with fail
      go_ret
      exact ⟨ov, us, gss, rfl, hBr, hrr, own_base hor hbH, hLr, hgr, hvr, hb⟩
end Go.Proofs.YtfkkcgdniepgoaaGreat
