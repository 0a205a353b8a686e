/- chapter 10: ChunkTells, walked. -/
import Derived.Test.YtolgjknpifpmbaaLaw10
import Derived.Test.YtolgjknpifpmbaaChunkScan
import Derived.Test.YtolgjknpifpmbaaApartT
namespace Go.Proofs.Ytolgjknpifpmbaa
open Go.RowKit
set_option maxHeartbeats 4000000
set_option maxRecDepth 100000
set_option linter.unusedVariables false

theorem BlkIs.stay {w w' : World} {g : Nat} {t : TypeId} {cs : Array Value} (h : BlkIs w g t cs) (hs : w'.heap[g]? = w.heap[g]?) : BlkIs w' g t cs := hs.trans h

theorem chunkTells_any (n size count used : Int) (body b : ByteArray) (w : World) (h1 : body.size ≤ 9223372036854775807) (h2 : b.size ≤ 9223372036854775807)
    (hsz : -9223372036854775808 ≤ size ∧ size ≤ 9223372036854775807) (hct : -9223372036854775808 ≤ count ∧ count ≤ 9223372036854775807) (hus : -9223372036854775808 ≤ used ∧ used ≤ 9223372036854775807) :
    Calls Try.prog 6 #[.int .i64 n, .int .i64 size, .int .i64 count, .int .i64 used, .string body, .string b] w fun e w' => e = .returned (.bool true) ∧ Below w.heap.size w w' := by
  by_cases t0 : body.size ≤ 4200
  · by_cases t1 : b.size ≤ 8000
    · obtain ⟨S, hS⟩ : ∃ S, startL n size = S := ⟨_, rfl⟩
      obtain ⟨P, hP⟩ : ∃ P, putL (1 :: body.data.toList) = P := ⟨_, rfl⟩
      obtain ⟨F, hF⟩ : ∃ F, finishL n count = F := ⟨_, rfl⟩
      obtain ⟨Q, hQ⟩ : ∃ Q, roomL size used = Q := ⟨_, rfl⟩
      have hst := fun w => start_any n size w
      have hst2 := fun w => refStart_any n size w hsz
      have hrc := fun w => record_any body w (by omega)
      have hrc2 := fun w => refRecord_any body w (by omega)
      have hfi := fun w => finish_any n count w
      have hfi2 := fun w => refFinish_any n count w hct
      have hro := fun w => chunkRoom_any size used w hsz hus
      have hro2 := fun w => refRoom_any size used w hsz hus
      have hrd := fun w => readScan_any b w (by omega)
      have hrd2 := fun w => refScan_any b w (by omega)
      have hfew := scanOf_few b.data.toList
      obtain ⟨R, hR⟩ : ∃ R, scanOf b.data.toList = R := ⟨_, rfl⟩
      rw [hS] at hst hst2
      rw [hP] at hrc hrc2
      rw [hF] at hfi hfi2
      rw [hQ] at hro hro2
      rw [hR] at hrd hrd2 hfew
      have hl8 : R.1.2.2.1.length ≤ 8000 := by have := size_list b; omega
      obtain ⟨⟨rn, rs, rl, rg, rd⟩, re⟩ := R
      simp only [] at hrd hrd2 hl8
      obtain ⟨ts, hts⟩ : ∃ ts, rl.map mkS = ts := ⟨_, rfl⟩
      have htl : ts.length = rl.length := by rw [← hts, List.length_map]
      rw [hts] at hrd hrd2
      have Hst := Lib.hid hst; have Hst2 := Lib.hid hst2; have Hrc := Lib.hid hrc; have Hrc2 := Lib.hid hrc2; have Hfi := Lib.hid hfi; have Hfi2 := Lib.hid hfi2; have Hro := Lib.hid hro; have Hro2 := Lib.hid hro2; have Hrd := Lib.hid hrd; have Hrd2 := Lib.hid hrd2
      have hlen : (strVs ts).length ≤ 1000000000 := by rw [strVs, List.length_map]; omega
      clear hst hst2 hrc hrc2 hfi hfi2 hro hro2 hrd hrd2 hS hP hF hQ hR hts hfew hsz hct hus
      go_enter Try.func6, Try.ntmps6
      go_wp2_with fail
      refine (Hst.out _).mono ?_
      rintro e w1 ⟨rfl, hb1⟩
      go_wp2_with fail
      refine (Hst2.out _).mono ?_
      rintro e w2 ⟨rfl, hb2⟩
      go_wp2_with fail
      refine (Hrc.out _).mono ?_
      rintro e w3 ⟨rfl, hb3⟩
      go_wp2_with fail
      refine (Hrc2.out _).mono ?_
      rintro e w4 ⟨rfl, hb4⟩
      go_wp2_with fail
      refine (Hfi.out _).mono ?_
      rintro e w5 ⟨rfl, hb5⟩
      go_wp2_with fail
      refine (Hfi2.out _).mono ?_
      rintro e w6 ⟨rfl, hb6⟩
      have hb06 : Below w.heap.size w w6 := hb1.trans ((hb2.trans ((hb3.trans ((hb4.trans ((hb5.trans (hb6.mono hb5.size)).mono hb4.size)).mono hb3.size)).mono hb2.size)).mono hb1.size)
      clear hb1 hb2 hb3 hb4 hb5 hb6
      have hBk : BlkIs (w6.alloc (.cells (bookCs (.slice none 0 0) (.slice none 0 0)) 48)) w6.heap.size 48 (bookCs (.slice none 0 0) (.slice none 0 0)) := BlkIs.new _ _ _
      unfold bookCs at hBk
      have HBk := Lib.hid hBk; have Hb06 := Lib.hid hb06
      clear hBk hb06
      go_wp2_with (first
        | (go_at_call 14; refine (Hro.out _).mono ?_; rintro e w9 ⟨rfl, rfl⟩)
        | (go_at_call 18; refine (Hro2.out _).mono ?_; rintro e w9 ⟨rfl, rfl⟩))
      refine (Hrd2.out _).mono ?_
      rintro e w7 ⟨wv0, rfl, hown7, hb7⟩
      obtain ⟨Aw, cw, rfl, hcw⟩ := own_slice hown7
      have hg6 : w6.heap.size < w7.heap.size := by have := hb7.size; simp at this; omega
      have hne : ∀ ad, Aw = some ad → ad.block ≠ w6.heap.size := fun ad h e => by have := (own_at hown7 ad h).1; simp at this; omega
      have hwant := ((SlR.own hown7).alloc (Nat.le_refl _) (.cells #[.int .i64 rn, .int .i64 rs, .slice Aw rl.length cw, .int .i64 (rg : Nat), .bool rd] 50)).more (B' := w7.heap.size + 1) (by omega)
      have hX7 := BlkIs.new w7 50 #[.int .i64 rn, .int .i64 rs, .slice Aw rl.length cw, .int .i64 (rg : Nat), .bool rd]
      have hB7 := (HBk.out.below hb7 HBk.out.lt).alloc (.cells #[.int .i64 rn, .int .i64 rs, .slice Aw rl.length cw, .int .i64 (rg : Nat), .bool rd] 50)
      have hb07 : Below w.heap.size w w7 := (Hb06.out.alloc Hb06.out.size _).trans (hb7.mono (by have := Hb06.out.size; simp; omega))
      have hwb : w.heap.size ≤ w6.heap.size := Hb06.out.size
      have hb07' := hb07.alloc hb07.size (.cells #[.int .i64 rn, .int .i64 rs, .slice Aw rl.length cw, .int .i64 (rg : Nat), .bool rd] 50)
      have HB7 := Lib.hid hB7; have Hwant := Lib.hid hwant; have Hb07 := Lib.hid hb07'; have Hne := Lib.hid hne; have HX7 := Lib.hid hX7
      clear hown7 hb7 hwant hB7 hb07 hb07' hne hX7
      go_wp2_with fail
      go_loopw [28] (fun i wr => ∃ (k : Nat) (tv wv : Value) (vs ws : List Value) (xss : List (List Value)), k ≤ 2 ∧ i = .int .i64 k ∧ BlkIs wr w6.heap.size 48 (bookCs tv wv) ∧ KindT wr (w7.heap.size + 1) tv wv vs ws xss ∧ vs.length = k ∧ w7.heap.size + 1 ≤ wr.heap.size ∧ SlR wr (w7.heap.size + 1) 1 Aw rl.length (strVs ts) ∧
        BlkIs wr w7.heap.size 50 #[.int .i64 rn, .int .i64 rs, .slice Aw rl.length cw, .int .i64 (rg : Nat), .bool rd] ∧ Below w.heap.size w wr) (fun i _ => 2 - (intOf i).toNat)
      case atStart => exact ⟨0, _, _, [], [], [], by omega, rfl, HB7.out, KindT.nil _ _, rfl, by simp, Hwant.out, HX7.out, Hb07.out⟩
      case round =>
        obtain ⟨k, tv, wv, vs, ws, xss, hk, rfl, hB, hK, hvl, hsz, hsw, hX, hb⟩ := hrel
        by_cases hlt : k < 2
        · have i1 : (k : Int) < 2 := by omega
          have HB := Lib.hid hB; have HK := Lib.hid hK; have Hvl := Lib.hid hvl; have Hsw := Lib.hid hsw; have HX := Lib.hid hX
          clear hB hK hvl hsw hX
          go_wp2_with fail
          refine (Hrd.out _).mono ?_
          rintro e w8 ⟨lv, rfl, hown8, hb8⟩
          obtain ⟨Al, cl, rfl, hcl⟩ := own_slice hown8
          have hY8 := BlkIs.new w8 31 #[.int .i64 rn, .int .i64 rs, .slice Al rl.length cl, .int .i64 (rg : Nat), .bool rd]
          obtain ⟨wy, hwy⟩ : ∃ wy, w8.alloc (.cells #[.int .i64 rn, .int .i64 rs, .slice Al rl.length cl, .int .i64 (rg : Nat), .bool rd] 31) = wy := ⟨_, rfl⟩
          have hby : Below wr.heap.size wr wy := by rw [← hwy]; exact hb8.alloc hb8.size _
          have hows : wy.ownsRow wr.heap.size 9 1 (.slice Al rl.length cl) rl.length (strVs ts) := by rw [← hwy]; exact hown8.alloc _
          rw [hwy] at hY8
          have hlty := hY8.lt
          have hBy := HB.out.below hby HB.out.lt
          have hKy := HK.out.below hby (Nat.le_refl _)
          have hswy := Hsw.out.below (hby.mono hsz)
          have hXy := HX.out.below hby HX.out.lt
          have hszy : w7.heap.size + 1 ≤ wy.heap.size := Nat.le_trans hsz hby.size
          have hapy : ∀ (i : Nat) (u : Value) (b : Nat), vs[i]? = some u → (Value.slice Al rl.length cl).ownBlock = some b → u.ownBlock ≠ some b := fun i u b hu hb2 e => by
            have h1 := (HK.out.lv.lt hu e).2
            have h2 := (hows.lt b hb2).1
            omega
          have hb0y := hb.trans (hby.mono (Nat.le_trans hwb (Nat.le_trans (Nat.le_of_lt hg6) (Nat.le_trans (Nat.le_succ _) hsz))))
          have hbk := bookTexts_any w6.heap.size (w7.heap.size + 1) rl.length (bookCs tv wv) tv wv (.slice Al rl.length cl) vs ws xss (strVs ts) wy hBy rfl rfl (by omega) hszy hKy (own_base hows hsz) hapy (by rw [Hvl.out]; omega) ⟨ts, rfl⟩ (by omega)
          have Hbk := Lib.hid hbk; have Hswy := Lib.hid hswy; have Hb0y := Lib.hid hb0y; have HXy := Lib.hid hXy; have HY8 := Lib.hid hY8; have HKy := Lib.hid hKy
          have hxl : xss.length = k := by have := HK.out.lv.len; have := Hvl.out; omega
          have Hxl := Lib.hid hxl
          have hw87 : w7.heap.size < w8.heap.size := Nat.lt_of_lt_of_le (Nat.lt_of_succ_le hsz) hb8.size
          have Hwy := Lib.hid hwy
          clear hBy hKy hswy hapy hb0y hbk hown8 hb8 hxl hb hXy hY8 hby hows hwy
          go_wp2_with fail
          rw [Hwy.out]
          refine Hbk.out.mono ?_
          rintro e w9 ⟨tv', wv', v2, rfl, hB9, hK9, hbb9, hst9⟩
          rw [bookCs_set] at hB9
          have hsw9 := Hswy.out.but hbb9 Hne.out
          have hsz9 : w7.heap.size + 1 ≤ w9.heap.size := Nat.le_trans hszy hbb9.size
          have hX9 : BlkIs w9 w7.heap.size 50 #[.int .i64 rn, .int .i64 rs, .slice Aw rl.length cw, .int .i64 (rg : Nat), .bool rd] := HXy.out.stay (hbb9.block _ (by omega) (by omega))
          have hY9 : BlkIs w9 w8.heap.size 31 #[.int .i64 rn, .int .i64 rs, .slice Al rl.length cl, .int .i64 (rg : Nat), .bool rd] := HY8.out.stay (hst9 _ hlty (by omega) (own_ne_blk HKy.out.rt HY8.out (by decide)) (own_ne_blk HKy.out.rw HY8.out (by decide)))
          have hs1 : Shows w9 1 (.slice Al rl.length cl) (strVs ts) := hK9.lv.shows (k := k) (by rw [List.getElem?_append_right (by rw [Hvl.out]; exact Nat.le_refl _), Hvl.out, Nat.sub_self]; rfl) (by rw [List.getElem?_append_right (by rw [Hxl.out]; exact Nat.le_refl _), Hxl.out, Nat.sub_self]; rfl)
          have hs2 : Shows w9 1 (.slice Aw rl.length cw) (strVs ts) := ⟨Aw, rl.length, cw, rfl, hsw9.more hsz9, hcw⟩
          have hb09 := Hb0y.out.trans (hbb9.below (by omega) hwb)
          have hvl9 : (vs ++ [Value.slice Al rl.length cl]).length = k + 1 := by rw [List.length_append, Hvl.out]; rfl
          have x0 := hX9.cell 0; have x1 := hX9.cell 1; have x2 := hX9.cell 2; have x3 := hX9.cell 3; have x4 := hX9.cell 4
          have y0 := hY9.cell 0; have y1 := hY9.cell 1; have y2 := hY9.cell 2; have y3 := hY9.cell 3; have y4 := hY9.cell 4
          simp at x0 x1 x2 x3 x4 y0 y1 y2 y3 y4
          have HB9 := Lib.hid hB9; have HK9 := Lib.hid hK9; have Hsw9 := Lib.hid hsw9; have Hs1 := Lib.hid hs1; have Hs2 := Lib.hid hs2; have Hb09 := Lib.hid hb09; have Hvl9 := Lib.hid hvl9; have HX9 := Lib.hid hX9
          clear hB9 hK9 hsw9 hs1 hs2 hb09 hvl9 hbb9 hX9 hY9 hst9
          go_wp2_with (go_at_call 13; refine (sameTexts_shows _ _ (strVs ts) _ Hs1.out Hs2.out ⟨ts, rfl⟩ hlen).mono ?_; rintro e w10 ⟨rfl, k10, rfl⟩)
          go_roundw
          case rel => exact ⟨k + 1, _, _, _, _, _, by omega, by go_num, HB9.out.drewN k10, HK9.out.drewN k10, Hvl9.out, hsz9, Hsw9.out.drewN k10, HX9.out.drewN k10, below_drewN Hb09.out k10⟩
          case measure => simp [intOf]; omega
        · obtain rfl : k = 2 := by omega
          have HB := Lib.hid hB; have HK := Lib.hid hK; have Hvl := Lib.hid hvl
          clear hB hK hvl hsw hX
          go_wp2_with fail
          refine (alive10_any _).mono ?_
          rintro e w8 ⟨rfl, hb8⟩
          have hap := apartT_any w6.heap.size (w7.heap.size + 1) (bookCs tv wv) tv wv vs ws xss w8 (HB.out.below hb8 HB.out.lt) rfl rfl (bookCs_nil _ _) (by omega) (Nat.le_trans hsz hb8.size) (HK.out.below hb8 (Nat.le_refl _)) (by rw [Hvl.out]; omega)
          have Hap := Lib.hid hap
          have hb08 := hb.trans (hb8.mono (Nat.le_trans hwb (Nat.le_trans (Nat.le_of_lt hg6) (Nat.le_trans (Nat.le_succ _) hsz))))
          clear hap hb8 hb
          go_wp2_with fail
          refine Hap.out.mono ?_
          rintro e w9 ⟨rfl, hb9⟩
          go_wp2_with fail
          go_ret
          exact ⟨rfl, hb08.trans (hb9.mono (by omega))⟩
    · have t1' : 8000 < b.size := by omega
      clear t1
      go_enter Try.func6, Try.ntmps6
      go_wp2_with fail
      refine (alive10_any _).mono ?_
      rintro e w1 ⟨rfl, hb1⟩
      go_wp2_with fail
      go_ret
      exact ⟨rfl, hb1⟩
  · have t0' : 4200 < body.size := by omega
    clear t0
    go_enter Try.func6, Try.ntmps6
    go_wp2_with fail
    refine (alive10_any _).mono ?_
    rintro e w1 ⟨rfl, hb1⟩
    go_wp2_with fail
    go_ret
    exact ⟨rfl, hb1⟩
end Go.Proofs.Ytolgjknpifpmbaa
