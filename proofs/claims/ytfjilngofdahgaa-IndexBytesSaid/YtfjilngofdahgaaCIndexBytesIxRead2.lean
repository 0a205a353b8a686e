/- chapter 14: read, walked. -/
import Derived.Test.YtfjilngofdahgaaCIndexBytesIxRead1

namespace Go.Proofs.Ytfjilngofdahgaa
open Go.RowKit
set_option maxHeartbeats 4000000
set_option maxRecDepth 100000
set_option linter.unusedVariables false

theorem step_w {A B C D t : Nat} (h1 : 16 * A + B ≤ C) (h2 : 24 * t + 16 + D ≤ B) : 16 * (A + t + 1) + D ≤ C := by omega
theorem wrap_two (a b : Nat) (h : a + b ≤ 10000000) : wrap64 ((a : Int) + (b : Int)) = ((a + b : Nat) : Int) := by unfold wrap64; omega
theorem beq_sum (a b c : Nat) : ((a : Int) == (b : Int) + (c : Int)) = decide (a = b + c) := by
  rw [Bool.eq_iff_iff, beq_iff_eq, decide_eq_true_eq]; omega
theorem readX_any (S : Nat → Prop) (g : Nat) (room most : Int) (gi base : Nat) (bs : List UInt8) (w : World) (h : IxIs w S g room most ([], [])) (hi : InIs w base gi bs 0) (hgi : ¬ S gi) (hl : bs.length ≤ 20000) :
    Calls Try.prog 48 #[.pointer (some ⟨g, 0, none⟩), .pointer (some ⟨gi, 0, none⟩)] w fun e w' => e = .returned (.bool (readX bs).isSome) ∧ Chg (fun b => S b ∨ b = gi) w w' ∧ ∀ s', readX bs = some s' → wX s' ≤ 2000 ∧ ∃ S', IxIs w' S' g room most s' ∧ ∀ b, S' b → S b ∨ w.heap.size ≤ b := by
  obtain ⟨i0, hi0, hz0, hz1, hz2⟩ := info_parts info_lv
  obtain ⟨j0, hj0, hy0, hy1, hy2⟩ := info_parts info_tb
  have hgw : gi < w.heap.size := hi.lt
  have hu0 := inU8G gi base bs 0 w hi (by omega)
  have hcn := inNum_lt 1 bs 0
  have hfw := inTake_few 1 bs 0
  obtain ⟨c0, hc0⟩ : ∃ c0, inNum 1 bs 0 = c0 := ⟨_, rfl⟩
  obtain ⟨p0, hp0⟩ : ∃ p0, (inTake 1 bs 0).2 = p0 := ⟨_, rfl⟩
  have hrd0 : ∀ o, rdLvs c0 p0 = o → rdLvs (inNum 1 bs 0) (inTake 1 bs 0).2 = o := fun o h => by rw [hc0, hp0]; exact h
  rw [hc0] at hu0 hcn
  rw [hp0] at hu0 hfw
  have hlt : ∀ b, S b → b < w.heap.size := by obtain ⟨T, r, v, vs, hx⟩ := h; exact hx.lt
  have H := Lib.hid h; have HU := Lib.hid hu0; have HR := Lib.hid hrd0; have HG := Lib.hid hgi; have HLT := Lib.hid hlt
  have hc256 : c0 < 256 := by omega
  clear h hi hgi hu0 hc0 hp0 hrd0 hlt hcn
  go_enter Try.func48, Try.ntmps48
  go_wp2_with fail
  refine HU.out.mono ?_
  rintro e w1 ⟨rfl, hi1, hg1⟩
  have I1 := Lib.hid hi1
  have C1 : Hid (Chg (fun b => S b ∨ b = gi) w w1) := Lib.hid ((chg_gi hg1).more (fun k _ hk => .inr hk))
  have X1 : Hid (IxIs w1 S g room most ([], [])) := Lib.hid (H.out.chg (chg_gi hg1) (fun b hb e => HG.out (e ▸ hb)))
  clear hi1 hg1
  go_wp2_with fail
  go_loopw [5, 13] (fun n i wr => ∃ (k : Nat) (S1 : Nat → Prop) (ls : List Lv) (p : InS), k ≤ c0 ∧ i = .int .i64 (k : Int) ∧ n = .int .i64 (countX ls : Nat) ∧ Hid (ls.length = k) ∧ Hid (IxIs wr S1 g room most ([], ls)) ∧ Hid (InIs wr base gi p.1 p.2) ∧ Hid (Chg (fun b => S b ∨ b = gi) w wr) ∧ Hid (∀ b, S1 b → S b ∨ w.heap.size ≤ b) ∧ Hid (¬ S1 gi) ∧ Hid (rdLvs c0 p0 = ahead ls (rdLvs (c0 - k) p)) ∧ Hid (16 * wLs ls + p.1.length ≤ bs.length + 16 * k)) (fun _ i _ => c0 - (intOf i).toNat)
  case atStart => exact ⟨0, S, [], p0, Nat.zero_le _, rfl, rfl, Lib.hid rfl, X1, I1, C1, Lib.hid (fun b hb => .inl hb), HG, Lib.hid (by rw [ahead_nil]; rfl), Lib.hid (by simp [wLs]; omega)⟩
  case round =>
    obtain ⟨k, S1, ls, p, hk, rfl, rfl, HK, HX, HI, HC, HS, HN, HRd, HW⟩ := hrel
    rename World => wo
    have hk0 : (0 : Int) ≤ (k : Int) := by omega
    have hwo := HC.out.size
    have hcw := countX_le ls
    have hwl := HW.out
    by_cases hlt : k < c0
    · have hlt' : (k : Int) < (c0 : Int) := by omega
      have hu := inU8G gi base p.1 p.2 wo HI.out (by omega)
      have hmn := inNum_lt 1 p.1 p.2
      have hfp := inTake_few 1 p.1 p.2
      obtain ⟨m, hm⟩ : ∃ m, inNum 1 p.1 p.2 = m := ⟨_, rfl⟩
      obtain ⟨p1, hp1⟩ : ∃ p1, (inTake 1 p.1 p.2).2 = p1 := ⟨_, rfl⟩
      have hsub : c0 - k = (c0 - (k + 1)) + 1 := by omega
      have hno : rdLv m p1 = none → readX bs = none := fun h => read_none1 (HR.out _ (by rw [HRd.out, hsub, rdLvs_none (by rw [hm, hp1]; exact h), ahead_none]))
      have hyes : ∀ l q, rdLv m p1 = some (l, q) → rdLvs c0 p0 = ahead (ls ++ [l]) (rdLvs (c0 - (k + 1)) q) := fun l q h => by rw [HRd.out, hsub, rdLvs_step (by rw [hm, hp1]; exact h)]
      rw [hm] at hu hmn
      rw [hp1] at hu hfp
      have HU2 := Lib.hid hu; have Hno := Lib.hid hno; have Hyes := Lib.hid hyes
      have hm256 : m < 256 := by omega
      clear hu hno hyes hm hp1 hmn hsub
      go_wp2_with fail
      refine HU2.out.mono ?_
      rintro e w4 ⟨rfl, hi4, hg4⟩
      have I4 := Lib.hid hi4
      have C4 : Hid (Chg (fun b => S b ∨ b = gi) w w4) := Lib.hid (HC.out.trans (chg_gi hg4) (fun k _ hk => .inr hk))
      have X4 : Hid (IxIs w4 S1 g room most ([], ls)) := Lib.hid (HX.out.chg (chg_gi hg4) (fun b hb e => HN.out (e ▸ hb)))
      have hw4 : w.heap.size ≤ w4.heap.size := C4.out.size
      clear hi4 hg4
      go_wp2_with fail
      go_loopw [5, 6, 17] (fun n lf j wq => ∃ (q : Nat) (lj : Lv) (pj : InS), q ≤ m ∧ j = .int .i64 (q : Int) ∧ n = .int .i64 (countX ls + sumL lj : Nat) ∧ Hid (lj.length = q) ∧ Hid (LvIs wq (fun b => w4.heap.size ≤ b) none lf lj ∧ ∀ b, lf.ownBlock = some b → w4.heap.size ≤ b) ∧ Hid (InIs wq base gi pj.1 pj.2) ∧ Hid (Chg (fun b => b = gi) w4 wq) ∧ Hid (rdLv m p1 = ahead lj (rdLv (m - q) pj)) ∧ Hid (16 * wL lj + pj.1.length ≤ p1.1.length)) (fun _ _ j _ => m - (intOf j).toNat)
      case atStart => exact ⟨0, [], p1, Nat.zero_le _, rfl, rfl, Lib.hid rfl, Lib.hid ⟨LvIs.none _ _ _, fun b hb => by cases hb⟩, I4, Lib.hid (Chg.refl _ _), Lib.hid (by rw [ahead_nil]; rfl), Lib.hid (by simp [wL])⟩
      case round =>
        obtain ⟨q, lj, pj, hq, rfl, rfl, HQ, HLf, HIj, HCj, HRj, HWj⟩ := hrel
        rename World => wi
        have hq0 : (0 : Int) ≤ (q : Int) := by omega
        have hwi := HCj.out.size
        have hwj := HWj.out
        have hsj := sumL_le lj
        have hsm : countX ls + sumL lj ≤ 20000 := by omega
        by_cases hql : q < m
        · have hq1 : (q : Int) < (m : Int) := by omega
          have htb := tableX_any gi base pj.1 pj.2 wi HIj.out (by omega)
          have hsub : m - q = (m - (q + 1)) + 1 := by omega
          cases hrt : rdTb pj with
          | none =>
            have hnn : readX bs = none := Hno.out (by rw [HRj.out, hsub, rdLv_none hrt, ahead_none])
            have hrt' : rdTb (pj.1, pj.2) = none := hrt
            rw [hrt'] at htb
            have Htb := Lib.hid htb; have Hnn := Lib.hid hnn
            clear htb hnn hrt hrt' hsub
            go_wp2_with fail
            refine Htb.out.mono ?_
            rintro e w5 ⟨u, rfl, ho5, hi5, hg5⟩
            obtain ⟨A5, c5, rfl, hn5⟩ := own_slice ho5
            have C5 : Hid (Chg (fun b => S b ∨ b = gi) w w5) := Lib.hid ((C4.out.trans HCj.out (fun k _ hk => .inr hk)).trans (chg_gi hg5) (fun k _ hk => .inr hk))
            clear ho5 hi5 hg5
            go_wp2_with fail
            go_ret
            rw [Hnn.out]
            exact ⟨rfl, C5.out, fun s' h => by cases h⟩
          | some a =>
            obtain ⟨t, qn⟩ := a
            have hrt' : rdTb (pj.1, pj.2) = some (t, qn) := hrt
            have hrest : (inText 65536 pj.1 pj.2).2 = qn := rdTb_rest hrt
            have htf := (rdTb_few hrt).2
            rw [hrt', hrest] at htb
            simp only [tbOf, Option.isSome_some] at htb
            by_cases h0 : t.length = 0
            · have hnn : readX bs = none := Hno.out (by rw [HRj.out, hsub, rdLv_zero hrt h0, ahead_none])
              have d0 : ((t.length : Int) == 0) = true := by rw [beq_iff_eq]; omega
              have Htb := Lib.hid htb; have Hnn := Lib.hid hnn
              clear htb hnn hrt hrt' hsub hrest h0
              go_wp2_with fail
              refine Htb.out.mono ?_
              rintro e w5 ⟨u, rfl, ho5, hi5, hg5⟩
              obtain ⟨A5, c5, rfl, hn5⟩ := own_slice ho5
              have C5 : Hid (Chg (fun b => S b ∨ b = gi) w w5) := Lib.hid ((C4.out.trans HCj.out (fun k _ hk => .inr hk)).trans (chg_gi hg5) (fun k _ hk => .inr hk))
              clear ho5 hi5 hg5
              go_wp2_with fail
              go_ret
              rw [Hnn.out]
              exact ⟨rfl, C5.out, fun s' h => by cases h⟩
            · have d0 : ((t.length : Int) == 0) = false := by rw [beq_eq_false_iff_ne]; omega
              have hst := rdLv_step (n := m - (q + 1)) hrt h0 lj
              rw [← hsub, ← HRj.out] at hst
              obtain ⟨N1, hN1⟩ : ∃ N1, countX ls + sumL lj = N1 := ⟨_, rfl⟩
              have hNs : N1 + t.length = countX ls + sumL (lj ++ [t]) := by rw [sumL_snoc]; omega
              have hN19 : N1 + t.length ≤ 10000000 := by omega
              have hwM := wrap_two N1 t.length hN19
              have hw2 : 16 * wL (lj ++ [t]) + qn.1.length ≤ p1.1.length := by rw [wL_snoc]; exact step_w hwj htf
              obtain ⟨us8, ho8, hu8⟩ := HLf.out.1
              obtain ⟨A8, c8, rfl, hn8⟩ := own_slice ho8
              have hv8 := HLf.out.2
              have hlj9 : lj.length ≤ 900000 := by have := HQ.out; omega
              rw [hN1]
              have Htb := Lib.hid htb; have Hst := Lib.hid hst; have HNs := Lib.hid hNs; have HwM := Lib.hid hwM; have Hw2 := Lib.hid hw2; have Ho8 := Lib.hid ho8; have Hu8 := Lib.hid hu8; have Hv8 := Lib.hid hv8
              clear htb hst hNs hwM hw2 ho8 hu8 hv8 hrt hrt' hsub hrest HLf hN1
              go_wp2_with fail
              refine Htb.out.mono ?_
              rintro e w5 ⟨u, rfl, ho5, hi5, hg5⟩
              obtain ⟨A5, c5, rfl, hn5⟩ := own_slice ho5
              have G5 := Lib.hid (chg_gi hg5); have I5 := Lib.hid hi5; have O5 := Lib.hid ho5
              have O8 : Hid (w5.ownsRow 0 32 1 (.slice A8 lj.length c8) lj.length us8) := Lib.hid (own_chg Ho8.out G5.out (fun b hb e => by have := Hv8.out b hb; have := C4.out.size; omega))
              have U8 : Hid (∀ (j : Nat) (u' : Value) (t' : Tb), us8[j]? = some u' → lj[j]? = some t' → w5.ownsRow 0 27 3 u' t'.length (enVs t') ∧ ∀ b, u'.ownBlock = some b → w4.heap.size ≤ b ∧ some b ≠ (none : Option Nat)) := Lib.hid (fun j u' t' k1 k2 => ⟨own_chg (Hu8.out j u' t' k1 k2).1 G5.out (fun b hb e => by have := ((Hu8.out j u' t' k1 k2).2 b hb).1; have := C4.out.size; omega), (Hu8.out j u' t' k1 k2).2⟩)
              have hwi5 := G5.out.size
              clear ho5 hi5 hg5
              go_wp2_with (at_builtin; refine wpList_append_lies _ rfl (.tmp 31) (.tmp 33) _ rfl 0 32 j0 _ 1 24 Try.underlying57 hj0 hy0 hy1 hy2 rfl (by omega) (.slice A8 lj.length c8) lj.length us8 rfl (O8.out.alloc _) ⟨w5.heap.size, 0, none⟩ 1 1 [.slice A5 t.length c5] rfl rfl (World.news_of_block (cs := #[.slice A5 t.length c5]) (heap_alloc_new w5 _)) (by simp [Value.oneCell']) (by omega) (by simp only [maxLen]; omega) (by omega) (by simp) (w5.heap.size + 1) (by simp) ?_; intro g9 cp w9 hown9 hgrow hat9 hlt9; have H9 := Lib.hid hown9; have HG9 := Lib.hid hgrow; have HA9 := Lib.hid hat9; clear hown9 hgrow hat9)
              have C9 : Hid (Chg (fun b => (Value.slice A8 lj.length c8).ownBlock = some b) w5 w9) := Lib.hid (((Chg.refl _ w5).alloc _).grown HG9.out (fun k hk _ => hk))
              have C9' : Hid (Chg (fun b => b = gi) w4 w9) := Lib.hid ((HCj.out.trans G5.out (fun k _ hk => hk)).trans C9.out (fun k hk h => by have := Hv8.out k h; omega))
              have I9 : Hid (InIs w9 base gi qn.1 qn.2) := Lib.hid (I5.out.chg C9.out (fun h => by have := Hv8.out gi h; omega))
              have hsn := lv_snoc (B := w4.heap.size) O8.out U8.out (own_mono O5.out (Nat.zero_le _)) (fun b hb => by have h1 := (O5.out.lt b hb).1; omega) C9.out H9.out
              have HSN := Lib.hid hsn
              clear hsn
              go_roundw
              case rel => exact ⟨q + 1, lj ++ [t], qn, by omega, by go_num, by rw [← HNs.out]; first | rfl | (rw [HwM.out]) | (rw [HwM.out]; rfl), Lib.hid (by have := HQ.out; simp; omega), Lib.hid ⟨HSN.out, fun b hb => by
                have e : g9 = b := by simpa [Value.ownBlock] using hb
                rcases HA9.out with h | h
                · exact Hv8.out b (by rw [← e]; exact h)
                · omega⟩, I9, C9', Lib.hid Hst.out, Hw2⟩
              case measure => simp [intOf]; omega
        · obtain rfl : q = m := by omega
          have dqq : decide (q < q) = false := by simp
          have hlv : rdLv q p1 = some (lj, pj) := by
            rw [HRj.out, Nat.sub_self]
            exact ahead_some lj pj
          have hnext := Hyes.out lj pj hlv
          have hcs := countX_snoc ls lj
          have hwn : 16 * wLs (ls ++ [lj]) + pj.1.length ≤ bs.length + 16 * (k + 1) := by rw [wLs_snoc]; omega
          obtain ⟨N1, hN1⟩ : ∃ N1, countX ls + sumL lj = N1 := ⟨_, rfl⟩
          rw [hN1] at hcs ⊢
          obtain ⟨T, r, v, vs, hx4⟩ := X4.out
          have hx := hx4.chg HCj.out (fun b hb e => HN.out (e ▸ hb))
          obtain ⟨Av, cv, rfl, hnv⟩ := own_slice hx.row
          obtain ⟨us8, ho8, hu8⟩ := id HLf.out.1
          obtain ⟨A8, c8, rfl, hn8⟩ := own_slice ho8
          have k3 := hx.blk.cell 3
          simp at k3
          dsimp only at hx k3
          have hlk := HK.out
          have hls9 : ls.length ≤ 900000 := by omega
          have X := Lib.hid hx; have Hnext := Lib.hid hnext; have Hcs := Lib.hid hcs; have Hwn := Lib.hid hwn; have X4' := Lib.hid hx4
          clear hx hx4 hnext hcs hwn hlv hql hu8 ho8 hN1 hlk
          go_wp2_with (at_builtin; refine wpList_append_lies _ rfl (.tmp 44) (.tmp 46) _ rfl 0 57 i0 _ 1 24 Try.underlying53 hi0 hz0 hz1 hz2 rfl (by omega) (.slice Av ls.length cv) ls.length vs rfl (X.out.row.alloc _) ⟨wi.heap.size, 0, none⟩ 1 1 [.slice A8 lj.length c8] rfl rfl (World.news_of_block (cs := #[.slice A8 lj.length c8]) (heap_alloc_new wi _)) (by simp [Value.oneCell']) (by omega) (by simp only [maxLen]; omega) (by omega) (by simp) (wi.heap.size + 1) (by simp) ?_; intro g3 cp w3 hown3 hgrow hat3 hlt3; have hb1 : Below wi.heap.size wi (wi.alloc (.cells #[.slice A8 lj.length c8] 57)) := (Below.refl _ _).alloc (Nat.le_refl _) _; have hblk := (X.out.blk.below hb1 X.out.blk.lt).grown hgrow (fun e => X.out.dvg e.symm); have q3 := hblk.cell 3; have q3f := hblk.free 3; simp at q3; have HB1 := Lib.hid hb1; have H3 := Lib.hid hown3; have HG3 := Lib.hid hgrow; have HA3 := Lib.hid hat3; clear hown3 hgrow hat3 hblk hb1)
          have hpush := ix_push X.out HB1.out (.slice (some ⟨g3, 0, none⟩) (ls.length + 1) cp) (.slice A8 lj.length c8) lj (fun b => w4.heap.size ≤ b ∧ b < wi.heap.size) (lv_inS HLf.out.1 (fun b hb hlt => ⟨⟨hb, hlt⟩, by simp⟩)) (fun b hb => by
            obtain ⟨us8, ho8, hu8⟩ := HLf.out.1
            exact ⟨HLf.out.2 b hb, (ho8.lt b hb).2⟩) (fun b hb => ⟨hb.2, fun hs => by have := X4'.out.lt b hs; omega⟩) H3.out HG3.out (fun b hb => by
            have e : g3 = b := by simpa [Value.ownBlock] using hb
            rcases HA3.out with h | h
            · exact .inl (by rw [← e]; exact h)
            · exact .inr (by omega))
          obtain ⟨hp1, hp2⟩ := hpush
          have HP1 := Lib.hid hp1; have HP2 := Lib.hid hp2
          clear hp1 hp2
          go_wp2_with fail
          go_roundw
          case rel =>
            refine ⟨k + 1, _, ls ++ [lj], pj, by omega, by go_num, by rw [Hcs.out], Lib.hid (by have := HK.out; simp; omega), Lib.hid ⟨T, r, _, _, HP1.out⟩, Lib.hid (HIj.out.chg HP2.out HN.out), Lib.hid ((C4.out.trans HCj.out (fun k _ hk => .inr hk)).trans HP2.out (fun b hb hs => ?_)), Lib.hid (fun b hb => ?_), Lib.hid (fun hb => ?_), Hnext, Hwn⟩
            · rcases HS.out b hs with h | h
              · exact .inl h
              · omega
            · rcases hb with hb | hb | hb
              · exact HS.out b hb
              · have e : g3 = b := by simpa [Value.ownBlock] using hb
                rcases HA3.out with h | h
                · exact HS.out b (X.out.sv b (by rw [← e]; exact h))
                · exact .inr (by omega)
              · exact .inr (by omega)
            · rcases hb with hb | hb | hb
              · exact HN.out hb
              · have e : g3 = gi := by simpa [Value.ownBlock] using hb
                rcases HA3.out with h | h
                · exact HN.out (X.out.sv gi (by rw [← e]; exact h))
                · omega
              · omega
          case measure => simp [intOf]; omega
    · obtain rfl : k = c0 := by omega
      have dkk : decide (k < k) = false := by simp
      have hlvs : rdLvs k p0 = some (ls, p) := by
        rw [HRd.out, Nat.sub_self]
        exact ahead_some ls p
      have hrl := HR.out _ hlvs
      have htb := tableX_any gi base p.1 p.2 wo HI.out (by omega)
      have Hrl := Lib.hid hrl
      clear hlt hlvs hrl
      cases hrt : rdTb p with
      | none =>
        have hnn : readX bs = none := read_none2 Hrl.out hrt
        have hrt' : rdTb (p.1, p.2) = none := hrt
        rw [hrt'] at htb
        have Htb := Lib.hid htb; have Hnn := Lib.hid hnn
        clear htb hnn hrt hrt'
        go_wp2_with fail
        refine Htb.out.mono ?_
        rintro e w5 ⟨u, rfl, ho5, hi5, hg5⟩
        obtain ⟨A5, c5, rfl, hn5⟩ := own_slice ho5
        have C5 : Hid (Chg (fun b => S b ∨ b = gi) w w5) := Lib.hid (HC.out.trans (chg_gi hg5) (fun k _ hk => .inr hk))
        clear ho5 hi5 hg5
        go_wp2_with fail
        go_ret
        rw [Hnn.out]
        exact ⟨rfl, C5.out, fun s' h => by cases h⟩
      | some a =>
        obtain ⟨t, qn⟩ := a
        have hre : readX bs = endX ls (t, qn) := read_end Hrl.out hrt
        have hrt' : rdTb (p.1, p.2) = some (t, qn) := hrt
        have hrest : (inText 65536 p.1 p.2).2 = qn := rdTb_rest hrt
        have htf := (rdTb_few hrt).2
        rw [hrt', hrest] at htb
        simp only [tbOf, Option.isSome_some] at htb
        unfold endX at hre
        dsimp only at hre
        have Htb := Lib.hid htb; have Hre := Lib.hid hre
        clear htb hre hrt hrt' hrest
        go_wp2_with fail
        refine Htb.out.mono ?_
        rintro e w5 ⟨u, rfl, ho5, hi5, hg5⟩
        obtain ⟨A5, c5, rfl, hn5⟩ := own_slice ho5
        have hend := inEnd_any gi base qn.1 qn.2 w5 hi5 (by omega)
        have C5 : Hid (Chg (fun b => b = gi) wo w5) := Lib.hid (chg_gi hg5)
        have O5 := Lib.hid ho5
        have hw5 := C5.out.size
        obtain ⟨E, hE⟩ : ∃ E, endL qn.1 qn.2 = E := ⟨_, rfl⟩
        rw [hE] at hend Hre
        have Hend := Lib.hid hend
        clear ho5 hi5 hg5 hend hE
        go_wp2_with fail
        refine Hend.out.mono ?_
        rintro e w6 ⟨rfl, hg6, _⟩
        have C6 : Hid (Chg (fun b => b = gi) wo w6) := Lib.hid (C5.out.trans (chg_gi hg6) (fun k _ hk => hk))
        have O6 : Hid (w6.ownsRow wo.heap.size 27 3 (.slice A5 t.length c5) t.length (enVs t)) := Lib.hid (own_chg O5.out (chg_gi hg6) (fun b hb e => by have := (O5.out.lt b hb).1; omega))
        have hw6 := C6.out.size
        clear hg6
        by_cases hE0 : E = 0
        · subst hE0
          obtain ⟨T, r, v, vs, hx0⟩ := HX.out
          have hx := hx0.chg C6.out (fun b hb e => HN.out (e ▸ hb))
          have k2 := hx.blk.cell 2
          simp at k2
          have hadd := add_any 0 T r [] t A5 t.length c5 w6 hx.tab List.Pairwise.nil (SlR.own O6.out) (fun h0 ad e => by
            have h1 := (O6.out.lt ad.block (by rw [e]; rfl)).1
            exact ⟨fun e2 => by have := hx0.lt _ hx0.sT; omega, fun e2 => by have := hx0.lt _ (hx0.sr _ e2.symm); omega⟩) (Nat.zero_le _) (by simp; omega)
          have hal := (adds_le [] t).2
          simp only [List.length_nil, Nat.zero_add] at hal
          obtain ⟨ta, hta⟩ : ∃ ta, addsE [] t = ta := ⟨_, rfl⟩
          rw [hta] at hadd hal Hre
          have X := Lib.hid hx; have Hadd := Lib.hid hadd
          clear hx hadd hta hx0
          go_wp2_with fail
          refine Hadd.out.mono ?_
          rintro e w7 ⟨rfl, r7, ht7, hst7⟩
          obtain ⟨hm1, hm2⟩ := X.out.memStep ht7 hst7
          have hwX : wX (ta, ls) ≤ 1600 := by rw [wX_eq]; dsimp only; omega
          have hlen := lenX_any _ g room most (ta, ls) w7 ⟨_, _, _, _, hm1⟩ (by omega)
          have hallf := allX_few (ta, ls) (by omega)
          dsimp only at hlen hallf
          have C7 : Hid (Chg (fun b => S b ∨ b = gi) w w7) := Lib.hid ((HC.out.trans C6.out (fun k _ hk => .inr hk)).trans hm2 (fun b hb hs => by
            rcases HS.out b hs with h | h
            · exact .inl h
            · omega))
          have M1 := Lib.hid hm1; have Hlen := Lib.hid hlen
          have S7 : Hid (∀ b, (S1 b ∨ some b = r7) → S b ∨ w.heap.size ≤ b) := Lib.hid (fun b hb => by
            rcases hb with hb | hb
            · exact HS.out b hb
            · rcases hst7.row with h | ⟨gg, h, h2⟩
              · exact HS.out b (X.out.sr b (h.symm.trans hb.symm))
              · rw [h] at hb; injection hb with hb; exact .inr (by omega))
          obtain ⟨aL, haL⟩ : ∃ aL, (allX ta ls).length = aL := ⟨_, rfl⟩
          obtain ⟨N1, hN1⟩ : ∃ N1, countX ls = N1 := ⟨_, rfl⟩
          rw [haL] at Hlen hallf Hre
          rw [hN1] at Hre hcw ⊢
          have hN19 : N1 + t.length ≤ 10000000 := by omega
          have hwN := wrap_two N1 t.length hN19
          have HwN := Lib.hid hwN
          clear hm1 hm2 hlen ht7 hst7 k2 hwN haL hN1
          go_wp2_with fail
          refine Hlen.out.mono ?_
          rintro e w8 ⟨rfl, hb8⟩
          have C8 : Hid (Chg (fun b => S b ∨ b = gi) w w8) := Lib.hid (C7.out.under hb8 C7.out.size)
          have M8 := Lib.hid (M1.out.below hb8)
          clear hb8
          go_wp2_with fail
          go_ret
          by_cases hq : aL = N1 + t.length
          · have hre := Hre.out
            rw [if_pos ⟨trivial, hq⟩] at hre
            rw [hre]
            refine ⟨?_, C8.out, fun s' hs' => ?_⟩
            · rw [beq_sum, decide_eq_true hq]; rfl
            · injection hs' with hs'
              subst hs'
              exact ⟨by omega, _, ⟨_, _, _, _, M8.out⟩, S7.out⟩
          · have hre := Hre.out
            rw [if_neg (fun h => hq h.2)] at hre
            rw [hre]
            refine ⟨?_, C8.out, fun s' hs' => by cases hs'⟩
            rw [beq_sum, decide_eq_false hq]; rfl
        · have dE : (E != 0) = true := by simpa using hE0
          have hre := Hre.out
          rw [if_neg (fun h => hE0 h.1)] at hre
          have Hre2 := Lib.hid hre
          clear hre hE0
          go_wp2_with fail
          go_ret
          rw [Hre2.out]
          exact ⟨rfl, HC.out.trans C6.out (fun k _ hk => .inr hk), fun s' h => by cases h⟩
end Go.Proofs.Ytfjilngofdahgaa
