/- chapter 21: VoteFile, walked. -/
import Derived.Test.YtbcbjibbeieaiaaLaw21
import Derived.Test.YtbcbjibbeieaiaaTwoRows
import Derived.Deep.RegionHeld3
import Derived.BigRegion
import Derived.RegionTactic
namespace Go.Proofs.Ytbcbjibbeieaiaa
open Go.RowKit
set_option maxHeartbeats 8000000
set_option maxRecDepth 100000
set_option linter.unusedVariables false

/-- the ballot of a drawn number -/
def balOf (z : Int) : Int × Int := (bits .and .i64 z 1023, bits .and .i64 (z / 1024) 7 - 1)
theorem balOf_right (z : Int) : rightV (balOf z) = true := by
  have h1 : 0 ≤ bits .and .i64 z 1023 ∧ bits .and .i64 z 1023 ≤ 1023 := mask_range z 1023 (by decide)
  have h2 : 0 ≤ bits .and .i64 (z / 1024) 7 ∧ bits .and .i64 (z / 1024) 7 ≤ 7 := mask_range (z / 1024) 7 (by decide)
  unfold rightV balOf
  rw [decide_eq_true_iff]
  show 0 ≤ bits .and .i64 z 1023 ∧ bits .and .i64 z 1023 ≤ 2147483647 ∧ -1 ≤ bits .and .i64 (z / 1024) 7 - 1 ∧ bits .and .i64 (z / 1024) 7 - 1 < 7
  omega
/-- the bytes of the first k ballots -/
def fileL (zs : List Int) (k : Nat) : List UInt8 := layAll (((zs.take k).map balOf).map ballotL)
theorem fileL_length (zs : List Int) (k : Nat) (h : k ≤ zs.length) : (fileL zs k).length = 28 * k := by unfold fileL; rw [layAll_ballots, List.length_map, List.length_take]; omega
theorem fileL_succ (zs : List Int) (k : Nat) (z : Int) (h : zs[k]? = some z) : fileL zs (k + 1) = fileL zs k ++ frameL (ballotL (balOf z)) := by
  unfold fileL
  rw [List.take_add_one, h, List.map_append, List.map_append, layAll_append]
  simp [layAll]
/-- the first k ballots as cells -/
def cellsL (zs : List Int) (k : Nat) : List Value := ((zs.take k).map fun z => [Value.int .i64 (balOf z).1, .int .i64 (balOf z).2]).flatten
theorem cellsL_succ (zs : List Int) (k : Nat) (z : Int) (h : zs[k]? = some z) : cellsL zs (k + 1) = cellsL zs k ++ [.int .i64 (balOf z).1, .int .i64 (balOf z).2] := by
  unfold cellsL
  rw [List.take_add_one, h, List.map_append, List.flatten_append]
  simp
theorem cellsL_get (zs : List Int) (k m : Nat) (z : Int) (h : m < k) (hk : m ≤ zs.length) (hz : zs[m]? = some z) : (cellsL zs k)[m * 2]? = some (.int .i64 (balOf z).1) ∧ (cellsL zs k)[m * 2 + 1]? = some (.int .i64 (balOf z).2) := by
  have key : ∀ (l : List Int) (m : Nat), l[m]? = some z → ((l.map fun z => [Value.int .i64 (balOf z).1, .int .i64 (balOf z).2]).flatten)[m * 2]? = some (.int .i64 (balOf z).1) ∧ ((l.map fun z => [Value.int .i64 (balOf z).1, .int .i64 (balOf z).2]).flatten)[m * 2 + 1]? = some (.int .i64 (balOf z).2) := by
    intro l
    induction l with
    | nil => intro m h; simp at h
    | cons y l ih =>
      intro m h
      cases m with
      | zero => simp at h; subst h; simp
      | succ m =>
        have := ih m (by simpa using h)
        rw [List.map_cons, List.flatten_cons, show (m + 1) * 2 = m * 2 + 2 from by omega]
        constructor
        · rw [List.getElem?_append_right (by simp)]; simpa using this.1
        · rw [List.getElem?_append_right (by simp)]; simpa using this.2
  unfold cellsL
  exact key _ m (by rw [List.getElem?_take, if_pos h]; exact hz)
theorem add_next (a : Addr) (i : Nat) : (⟨(a.add i).block, (a.add i).off + 1, none⟩ : Addr) = a.add (i + 1) := by
  unfold Addr.add
  by_cases h : i = 0
  · subst h; simp
  · simp [h, Nat.add_assoc]
/-- where ballots end, as values -/
def endsB (k : Nat) : List Value := (List.range k).map fun j => .int .i64 (28 * (j + 1) : Nat)
theorem endsB_succ (k : Nat) : endsB (k + 1) = endsB k ++ [.int .i64 (28 * (k + 1) : Nat)] := by unfold endsB; rw [List.range_succ, List.map_append]; rfl
theorem endsB_get (k j : Nat) (h : j < k) : (endsB k)[j]? = some (.int .i64 (28 * (j + 1) : Nat)) := by unfold endsB; simp [h]
theorem info_int21 : (Try.prog.info? 3).map (fun i => (i.zero, i.size, i.bytes)) = some (some (.int .i64 0), 1, 8) := by kernel_rfl
theorem info_bal : (Try.prog.info? 32).map (fun i => (i.zero, i.size, i.bytes)) = some (some (.agg #[.int .i64 0, .int .i64 0]), 2, 16) := by kernel_rfl

theorem voteFile_any (A : Option Addr) (n cap : Nat) (zs : List Int) (cut : Int) (w : World) (hl : zs.length = n) (hr : SlR w w.heap.size 1 A n (intVs zs)) (hn : n ≤ 9223372036854775807)
    (hwf : ∀ z ∈ zs, (Lit.int .i64 z).wf = true) (hcut : cut ≤ 9223372036854775807) :
    Calls Try.prog 5 #[.slice A n cap, .int .i64 cut] w fun e w' => e = .returned (.bool true) ∧ Below w.heap.size w w' := by
  by_cases t0 : n ≤ 20
  · by_cases t1 : 0 ≤ cut
    · obtain ⟨i0, hi0, hz0, hz1, hz2⟩ := info_parts info_int21
      obtain ⟨j0, hj0, hy0, hy1, hy2⟩ := info_parts info_bal
      have Hl := Lib.hid hl; have Hr := Lib.hid hr; have Hwf := Lib.hid hwf
      clear hl hr hwf
      go_enter Try.func5, Try.ntmps5
      go_wp2_with fail
      go_loopw [5, 6, 7, 8] (fun t o p i wr => ∃ (k : Nat) (v6 v7 : Value), v6 = o ∧ v7 = p ∧ k ≤ n ∧ i = .int .i64 k ∧ t = .string ⟨(fileL zs k).toArray⟩ ∧
        wr.ownsRow w.heap.size 3 1 v6 k (endsB k) ∧ wr.ownsRow w.heap.size 32 2 v7 k (cellsL zs k) ∧ Below w.heap.size w wr) (fun _ _ _ i _ => n - (intOf i).toNat)
      case atStart => exact ⟨0, _, _, rfl, rfl, Nat.zero_le _, rfl, by simp [fileL, layAll], World.ownsRow_nil _ _ _ _, World.ownsRow_nil _ _ _ _, Below.refl _ _⟩
      case round =>
        obtain ⟨k, v6, v7, rfl, rfl, hk, rfl, rfl, ho6, ho7, hb⟩ := hrel
        by_cases hlt : k < n
        · obtain ⟨ad, u, hA, had, hu, hcell⟩ := (Hr.out.below hb).get hlt
          subst hA
          obtain ⟨z, hz, rfl⟩ := intVs_get hu
          have hrz := balOf_right z
          have hsf := fileL_succ zs k z hz
          have hsc := cellsL_succ zs k z hz
          have hpv : putV (balOf z) = (frameL (ballotL (balOf z)), 0) := by unfold putV; rw [if_pos hrz]
          have hfl : (frameL (ballotL (balOf z))).length = 28 := by rw [frameL_length, ballotL_length]
          have hal := fileL_length zs k (by rw [Hl.out]; exact hk)
          have hal2 := fileL_length zs (k + 1) (by rw [Hl.out]; omega)
          have hm1 : 0 ≤ bits .and .i64 z 1023 ∧ bits .and .i64 z 1023 ≤ 1023 := mask_range z 1023 (by decide)
          have hm2 : 0 ≤ bits .and .i64 (z / 1024) 7 ∧ bits .and .i64 (z / 1024) 7 ≤ 7 := mask_range (z / 1024) 7 (by decide)
          have hw2 : IntKind.i64.wrap (bits .and .i64 (z / 1024) 7 - 1) = bits .and .i64 (z / 1024) 7 - 1 := IntWalk.i64_in _ (by omega)
          have hbz : balOf z = (bits .and .i64 z 1023, bits .and .i64 (z / 1024) 7 - 1) := rfl
          have hwz := Hwf.out z (List.mem_of_getElem? hz)
          have i1 : (k : Int) < (n : Int) := by omega
          have i0' : 0 ≤ (k : Int) := by omega
          obtain ⟨F, hF⟩ : ∃ F, frameL (ballotL (balOf z)) = F := ⟨_, rfl⟩
          rw [hF] at hsf hpv hfl
          have Hsf := Lib.hid hsf; have Hsc := Lib.hid hsc; have Hpv := Lib.hid hpv; have Hal := Lib.hid hal; have Hal2 := Lib.hid hal2; have Hbz := Lib.hid hbz; have Hw2 := Lib.hid hw2
          have Ho6 := Lib.hid ho6; have Ho7 := Lib.hid ho7
          have hFs : F.length ≤ 28 := by omega
          have hF0 : ((F.length : Int) == 0) = false := by rw [hfl]; rfl
          have has : (fileL zs k).length ≤ 560 := by omega
          have Hfl := Lib.hid hfl
          clear hu hz had hrz hsf hsc hpv hfl hal hal2 hbz hw2 ho6 ho7 hwz hm1 hm2 hF
          go_wp2_with fail
          go_region_held3 (fun wx => wx.cell? (ad.add k) = some (.int .i64 z)) (go_keep) (fail)
          rw [Hw2.out]
          generalize bits .and .i64 z 1023 = T at Hbz ⊢
          generalize bits .and .i64 (z / 1024) 7 - 1 = G at Hbz ⊢
          rw [Hbz.out] at Hsc Hpv
          have hX := BlkIs.new wr 32 #[.int .i64 T, .int .i64 G]
          have hbX := hb.alloc hb.size (.cells #[.int .i64 T, .int .i64 G] 32)
          go_wp2_with fail
          refine (putV_any T G _).mono ?_
          rintro e w2 ⟨rfl, hb2⟩
          rw [Hpv.out]
          have hb2' : Below (wr.alloc (.cells #[.int .i64 T, .int .i64 G] 32)).heap.size (wr.alloc (.cells #[.int .i64 T, .int .i64 G] 32)) w2 := ⟨hb2.os, hb2.tape, hb2.output, hb2.size, hb2.block⟩
          have hX2 := hX.below hb2' (by simp)
          have hbw2 := hbX.trans (hb2'.mono hbX.size)
          have hwr2 : Below wr.heap.size wr w2 := ((Below.refl _ _).alloc (Nat.le_refl _) _).trans (hb2'.mono (by simp))
          have ho62 := own_below Ho6.out hwr2 (fun q hq => (Ho6.out.lt q hq).2)
          have ho72 := own_below Ho7.out hwr2 (fun q hq => (Ho7.out.lt q hq).2)
          have hap := rows_apart ho72 ho62 (by decide)
          have hX0 := hX2.cell 0
          have hX1 := hX2.cell 1
          simp at hX0 hX1
          have Hap := Lib.hid hap; have HX2 := Lib.hid hX2; have Ho62 := Lib.hid ho62; have Ho72 := Lib.hid ho72
          have hne6 := own_ne_blk ho62 hX2 (by decide)
          have Hne6 := Lib.hid hne6
          clear hX hbX hb2 hb2' hX2 ho62 ho72 hap hne6
          go_wp2_with (first
            | (at_builtin; refine wpList_append_lies _ rfl (.tmp 60) (.tmp 63) _ rfl w.heap.size 3 i0 _ 1 8 Try.underlying22 hi0 hz0 hz1 hz2 rfl (by omega) v6 k (endsB k) rfl (Ho62.out.alloc _) ⟨w2.heap.size, 0, none⟩ 1 1 [.int .i64 (((fileL zs k).length : Int) + (F.length : Int))] rfl rfl (World.news_of_block (cs := #[.int .i64 (((fileL zs k).length : Int) + (F.length : Int))]) (heap_alloc_new w2 _)) (by simp [Value.oneCell']) (by omega) (by simp only [maxLen]; omega) (by omega) (by have := hbw2.size; simp <;> omega) (w2.heap.size + 1) (by simp) ?_; intro g4 cp4 w4 hown4 hgrow4 hat4 hlt4; have hX4 := (HX2.out.alloc _).grown hgrow4 (Ne.symm Hne6.out); have hX40 := hX4.cell 0; have hX41 := hX4.cell 1; simp at hX40 hX41; have Ho74 := Lib.hid (own_grown (Ho72.out.alloc _) hgrow4 Hap.out); have hb4 : Below w.heap.size w w4 := (hbw2.alloc hbw2.size _).grown hgrow4 (by have := hbw2.size; simp <;> omega) (fun q hq => (Ho62.out.lt q hq).1); have Hown4 := Lib.hid hown4; clear hown4 hX4 hgrow4)
            | (at_builtin; refine wpList_append_lies _ rfl (.tmp 65) (.tmp 67) _ rfl w.heap.size 32 j0 _ 2 16 Try.underlying29 hj0 hy0 hy1 hy2 rfl (by omega) v7 k (cellsL zs k) rfl (Ho74.out.alloc _) ⟨w4.heap.size, 0, none⟩ 1 1 [.int .i64 T, .int .i64 G] rfl rfl (World.news_of_block (cs := #[.int .i64 T, .int .i64 G]) (heap_alloc_new w4 _)) (by simp [Value.oneCell']) (by omega) (by simp only [maxLen]; omega) (by omega) (by have := hb4.size; simp <;> omega) (w4.heap.size + 1) (by simp) ?_; intro g5 cp5 w5 hown5 hgrow5 hat5 hlt5))
          have hb5 : Below w.heap.size w w5 := (hb4.alloc hb4.size _).grown hgrow5 (by have := hb4.size; simp <;> omega) (fun q hq => (Ho74.out.lt q hq).1)
          have ho65 := own_grown (Hown4.out.alloc _) hgrow5 (fun g hg h => rows_apart Hown4.out Ho74.out (by decide) g hg h)
          go_roundw
          case rel =>
            refine ⟨k + 1, _, _, rfl, rfl, by omega, by go_num, by rw [Hsf.out, str_append], ?_, ?_, hb5⟩
            · rw [endsB_succ, show 28 * (k + 1) = (fileL zs k).length + F.length from by rw [Hal.out, Hfl.out]; omega, Int.natCast_add]; exact ho65
            · rw [Hsc.out]; exact hown5
          case measure => simp [intOf]; omega
        · obtain rfl : k = n := by omega
          obtain ⟨wo, rfl⟩ : ∃ wo : World, wo = wr := ⟨_, rfl⟩
          have hLl := fileL_length zs k (by rw [Hl.out]; exact Nat.le_refl _)
          have hLe : fileL zs k = layAll ((zs.map balOf).map ballotL) := by unfold fileL; rw [List.take_of_length_le (by rw [Hl.out]; exact Nat.le_refl _)]
          obtain ⟨L, hL⟩ : ∃ L, fileL zs k = L := ⟨_, rfl⟩
          rw [hL] at hLl hLe ⊢
          obtain ⟨kk, hkk, hkk1⟩ : ∃ kk : Nat, min cut (L.length : Int) = (kk : Int) ∧ kk ≤ L.length := ⟨(min cut (L.length : Int)).toNat, by omega, by omega⟩
          have hLs : L.length ≤ 560 := by omega
          have HLl := Lib.hid hLl; have HLe := Lib.hid hLe
          obtain ⟨A6, c6, rfl, hc6⟩ := own_slice ho6
          obtain ⟨A7, c7, rfl, hc7⟩ := own_slice ho7
          have hs6 := (SlR.own ho6).alloc (Nat.le_refl _) (.cells #[.int .i64 0, .int .i64 (-1)] 32)
          have hs7 := (SlR.own ho7).alloc (Nat.le_refl _) (.cells #[.int .i64 0, .int .i64 (-1)] 32)
          have hbW : Below w.heap.size w (wo.alloc (.cells #[.int .i64 0, .int .i64 (-1)] 32)) := hb.alloc hb.size _
          have hWz : w.heap.size ≤ wo.heap.size := hb.size
          have HbW := Lib.hid hbW; have Hs6 := Lib.hid hs6; have Hs7 := Lib.hid hs7
          clear hL hLl hLe ho6 ho7 hs6 hs7 hbW hb
          go_wp2_with fail
          go_loopw [14, 15] (fun nn i wr => ∃ (m : Nat) (T G : Int), m ≤ k ∧ i = .int .i64 m ∧ nn = .int .i64 (28 * m : Nat) ∧ 28 * m ≤ kk ∧ ((zs.map balOf).take m).getLast?.getD (0, -1) = (T, G) ∧ BlkIs wr wo.heap.size 32 #[.int .i64 T, .int .i64 G] ∧
            SlR wr wo.heap.size 1 A6 k (endsB k) ∧ SlR wr wo.heap.size 2 A7 k (cellsL zs k) ∧ Below w.heap.size w wr) (fun _ i _ => k - (intOf i).toNat)
          case atStart => exact ⟨0, 0, -1, Nat.zero_le _, rfl, rfl, Nat.zero_le _, by simp, BlkIs.new _ _ _, Hs6.out, Hs7.out, HbW.out⟩
          case round =>
            obtain ⟨m, T, G, hm, rfl, rfl, hmk, hlast, hW, hS6, hS7, hb⟩ := hrel
            have Hlast := Lib.hid hlast; clear hlast
            by_cases hlt2 : m < k ∧ 28 * (m + 1) ≤ kk
            · obtain ⟨hm1, hm2⟩ := hlt2
              obtain ⟨z, hz⟩ : ∃ z, zs[m]? = some z := ⟨_, List.getElem?_eq_getElem (by rw [Hl.out]; exact hm1)⟩
              obtain ⟨a6, e6, hb6, hc6'⟩ := hS6.cells (by omega)
              obtain ⟨a7, e7, hb7, hc7'⟩ := hS7.cells (by omega)
              subst e6 e7
              have hce := hc6' m _ (endsB_get k m hm1)
              have hcc := cellsL_get zs k m z hm1 (by rw [Hl.out]; exact hm) hz
              have hc0 := hc7' (m * 2) _ hcc.1
              have hc1 := hc7' (m * 2 + 1) _ hcc.2
              rw [← add_next] at hc1
              have hstep : ((zs.map balOf).take (m + 1)).getLast?.getD (0, -1) = balOf z := by
                rw [List.take_add_one, List.getElem?_map, hz]; simp
              have hw0 := hW.cell 0
              have hw1 := hW.cell 1
              have hf0 := hW.free 0
              have hf1 := hW.free 1
              simp at hw0 hw1
              have hne7 : a7.block ≠ wo.heap.size := by omega
              have i1 : (m : Int) < (k : Int) := by omega
              have i0' : 0 ≤ (m : Int) := by omega
              have i2 : (28 : Int) * ((m : Int) + 1) ≤ (kk : Int) := by omega
              rw [show ((28 * (m + 1) : Nat) : Int) = 28 * ((m : Int) + 1) from by omega] at hce
              have Hstep := Lib.hid hstep; have HW := Lib.hid hW; have HS6 := Lib.hid hS6; have HS7 := Lib.hid hS7
              obtain ⟨T2, G2, hTG⟩ : ∃ T2 G2, balOf z = (T2, G2) := ⟨_, _, rfl⟩
              rw [hTG] at hc0 hc1 Hstep
              have hne6 : ∀ i, (⟨wo.heap.size, i, none⟩ : Addr) ≠ a6.add m := fun i h => by have h2 := congrArg Addr.block h; rw [add_block] at h2; simp at h2; omega
              have hce2 : ((wr.setCell ⟨wo.heap.size, 0, none⟩ (.int .i64 T2)).setCell ⟨wo.heap.size, 1, none⟩ (.int .i64 G2)).cell? (a6.add m) = some (.int .i64 (28 * ((m : Int) + 1))) :=
                (World.cell?_setCell_other _ _ _ _ (hne6 1)).trans ((World.cell?_setCell_other _ _ _ _ (hne6 0)).trans hce)
              clear hz hcc hstep hW hS6 hS7 hc6' hc7' hTG hne6
              go_wp2_with fail
              go_region
              all_goals
                go_wp2_with fail
                go_roundw
                case rel =>
                  refine ⟨m + 1, T2, G2, by omega, by go_num, by go_num, hm2, Hstep.out, ((HW.out.put 0 _).put 1 _).drew, ((HS6.out.set (p := ⟨wo.heap.size, 0, none⟩) (Nat.le_refl _) _).set (p := ⟨wo.heap.size, 1, none⟩) (Nat.le_refl _) _).drew, ((HS7.out.set (p := ⟨wo.heap.size, 0, none⟩) (Nat.le_refl _) _).set (p := ⟨wo.heap.size, 1, none⟩) (Nat.le_refl _) _).drew, ?_⟩
                  have h5 := below_two hb hWz (.int .i64 T2) (.int .i64 G2)
                  exact ⟨h5.os, h5.tape, h5.output, h5.size, h5.block⟩
                case measure => simp [intOf]; omega
            · have hread : readBytes (L.take kk) = ((T, G), 28 * m) := by
                have h1 := readBytes_kept (zs.map balOf) (fun b hb2 => by obtain ⟨z, _, rfl⟩ := List.mem_map.1 hb2; exact balOf_right z) kk m (by rw [List.length_map, Hl.out]; exact hm) hmk (fun h => by rw [List.length_map, Hl.out] at h; omega) (by rw [List.length_map, Hl.out]; have := HLl.out; omega)
                rw [← HLe.out, Hlast.out] at h1
                exact h1
              have hgo : (m < k ∧ kk < 28 * (m + 1)) ∨ m = k := by omega
              have Hread := Lib.hid hread; have HW := Lib.hid hW
              have hkI : (kk : Int) ≤ (L.length : Int) := by omega
              clear hread hW hlt2
              rcases hgo with ⟨g1, g2⟩ | g1
              · obtain ⟨a6, e6, hb6, hc6'⟩ := hS6.cells (by omega)
                subst e6
                have hce := hc6' m _ (endsB_get k m g1)
                rw [show ((28 * (m + 1) : Nat) : Int) = 28 * ((m : Int) + 1) from by omega] at hce
                have i1 : (m : Int) < (k : Int) := by omega
                have i0' : 0 ≤ (m : Int) := by omega
                have i2 : (kk : Int) < (28 : Int) * ((m : Int) + 1) := by omega
                clear hc6' hS6 hS7
                go_wp2_with fail
                refine (voteRead_any _ _ (by simp; omega)).mono ?_
                rintro e w2 ⟨rfl, hb2⟩
                rw [show readBytes ((⟨L.toArray⟩ : ByteArray).extract 0 kk).data.toList = ((T, G), 28 * m) from by rw [str_to]; exact Hread.out]
                have hW2 := HW.out.below hb2 HW.out.lt
                have hbw2 := hb.trans (hb2.mono hb.size)
                have hlt3 : wo.heap.size < w2.heap.size := hW2.lt
                have hX := BlkIs.new w2 32 #[.int .i64 T, .int .i64 G]
                have HW2 := Lib.hid hW2; have HX := Lib.hid hX
                clear hW2 hX hb2
                go_wp2_with fail
                refine (alive21_any _).mono ?_
                rintro e w3 ⟨rfl, hb3⟩
                have hW3 := (HW2.out.alloc (.cells #[.int .i64 T, .int .i64 G] 32)).below hb3 (by simp <;> omega)
                have hX3 := HX.out.below hb3 (by simp)
                have hq0 := hW3.cell 0
                have hq1 := hW3.cell 1
                have hr0 := hX3.cell 0
                have hr1 := hX3.cell 1
                simp at hq0 hq1 hr0 hr1
                clear hW3 hX3
                go_wp2_with fail
                go_ret
                exact ⟨rfl, (hbw2.alloc hbw2.size _).trans (hb3.mono (by have := hbw2.size; simp <;> omega))⟩
              · subst g1
                clear hS6 hS7
                go_wp2_with fail
                refine (voteRead_any _ _ (by simp; omega)).mono ?_
                rintro e w2 ⟨rfl, hb2⟩
                rw [show readBytes ((⟨L.toArray⟩ : ByteArray).extract 0 kk).data.toList = ((T, G), 28 * m) from by rw [str_to]; exact Hread.out]
                have hW2 := HW.out.below hb2 HW.out.lt
                have hbw2 := hb.trans (hb2.mono hb.size)
                have hlt3 : wo.heap.size < w2.heap.size := hW2.lt
                have hX := BlkIs.new w2 32 #[.int .i64 T, .int .i64 G]
                have HW2 := Lib.hid hW2; have HX := Lib.hid hX
                clear hW2 hX hb2
                go_wp2_with fail
                refine (alive21_any _).mono ?_
                rintro e w3 ⟨rfl, hb3⟩
                have hW3 := (HW2.out.alloc (.cells #[.int .i64 T, .int .i64 G] 32)).below hb3 (by simp <;> omega)
                have hX3 := HX.out.below hb3 (by simp)
                have hq0 := hW3.cell 0
                have hq1 := hW3.cell 1
                have hr0 := hX3.cell 0
                have hr1 := hX3.cell 1
                simp at hq0 hq1 hr0 hr1
                clear hW3 hX3
                go_wp2_with fail
                go_ret
                exact ⟨rfl, (hbw2.alloc hbw2.size _).trans (hb3.mono (by have := hbw2.size; simp <;> omega))⟩
    · have n1 : cut < 0 := by omega
      clear t1 hl hr hwf
      go_enter Try.func5, Try.ntmps5
      go_wp2_with fail
      refine (alive21_any _).mono ?_
      rintro e w1 ⟨rfl, hb1⟩
      go_wp2_with fail
      go_ret
      exact ⟨rfl, hb1⟩
  · have n0 : 20 < n := by omega
    clear t0 hl hr hwf
    go_enter Try.func5, Try.ntmps5
    go_wp2_with fail
    refine (alive21_any _).mono ?_
    rintro e w1 ⟨rfl, hb1⟩
    go_wp2_with fail
    go_ret
    exact ⟨rfl, hb1⟩
end Go.Proofs.Ytbcbjibbeieaiaa
