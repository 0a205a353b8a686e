/- package chunk: Read, walked. -/
import Derived.Test.YtolgjknpifpmbaaChunkBegin
namespace Go.Proofs.Ytolgjknpifpmbaa
open Go.RowKit
set_option maxHeartbeats 400000
set_option maxRecDepth 100000
set_option linter.unusedVariables false

/-- lists of bytes as texts -/
def mkS (l : List UInt8) : ByteArray := ⟨l.toArray⟩
theorem info_strC : (Try.prog.info? 9).map (fun i => (i.zero, i.size, i.bytes)) = some (some (.string ByteArray.empty), 1, 16) := by kernel_rfl

theorem blk_five {w : World} {g : Nat} {t : TypeId} {a0 a1 a2 a3 a4 : Value} (h : BlkIs w g t #[a0, a1, a2, a3, a4]) (v0 v1 v2 v3 v4 : Value) :
    BlkIs (((((w.setCell ⟨g, 0, none⟩ v0).setCell ⟨g, 1, none⟩ v1).setCell ⟨g, 2, none⟩ v2).setCell ⟨g, 3, none⟩ v3).setCell ⟨g, 4, none⟩ v4) g t #[v0, v1, v2, v3, v4] := by
  simpa using ((((h.put 0 v0).put 1 v1).put 2 v2).put 3 v3).put 4 v4
theorem own_five {w : World} {g base : Nat} {e : TypeId} {size n : Nat} {v : Value} {xs : List Value} (h : w.ownsRow base e size v n xs) (hg : v.ownBlock ≠ some g) (v0 v1 v2 v3 v4 : Value) :
    (((((w.setCell ⟨g, 0, none⟩ v0).setCell ⟨g, 1, none⟩ v1).setCell ⟨g, 2, none⟩ v2).setCell ⟨g, 3, none⟩ v3).setCell ⟨g, 4, none⟩ v4).ownsRow base e size v n xs :=
  own_far (own_far (own_far (own_far (own_far h (a := ⟨g, 0, none⟩) hg v0) (a := ⟨g, 1, none⟩) hg v1) (a := ⟨g, 2, none⟩) hg v2) (a := ⟨g, 3, none⟩) hg v3) (a := ⟨g, 4, none⟩) hg v4
theorem own_less {w : World} {base b : Nat} {e : TypeId} {size n : Nat} {v : Value} {xs : List Value} (h : w.ownsRow base e size v n xs) (hb : b ≤ base) : w.ownsRow b e size v n xs := by
  refine ⟨h.1, ?_⟩
  rcases h.2 with h0 | ⟨g', cap, cur, hv, hbg, rest⟩
  · exact .inl h0
  · exact .inr ⟨g', cap, cur, hv, Nat.le_trans hb hbg, rest⟩
theorem own_ne_below {w : World} {base g : Nat} {e : TypeId} {size n : Nat} {v : Value} {xs : List Value} (h : w.ownsRow base e size v n xs) (hb : g < base) : v.ownBlock ≠ some g := by
  intro he
  have := (h.lt g he).1
  omega

theorem readBad_any (s : ByteArray) (w : World) (hs : s.size ≤ 1000000000) (hb : beginL s.data.toList = none) :
    Calls Try.prog 12 #[.string s] w fun e w' => e = .returned (.tuple #[.agg #[.int .i64 0, .int .i64 0, .slice none 0 0, .int .i64 0, .bool false], .int .i64 6]) ∧ Below w.heap.size w w' := by
  have hbg := begin_any s (w.alloc (.cells #[.int .i64 0, .int .i64 0, .slice none 0 0, .int .i64 0, .bool false] 31)) hs
  rw [hb] at hbg
  unfold beginV at hbg
  simp only [] at hbg
  have Hbg := Lib.hid hbg; clear hbg hb
  go_enter Try.func12, Try.ntmps12
  go_wp2_with fail
  refine Hbg.out.mono ?_
  rintro e w1 ⟨rfl, hb1⟩
  have hB := (BlkIs.new w 31 #[Value.int .i64 0, .int .i64 0, .slice none 0 0, .int .i64 0, .bool false]).below hb1 (by simp)
  have hbw : Below w.heap.size w w1 := ((Below.refl _ _).alloc (Nat.le_refl _) _).trans (hb1.mono (by simp))
  have hcell0 := hB
  have hlt := hB.lt
  clear hb1 hB
  have hcell := hcell0.cell
  have hfree := hcell0.free
  go_wp2_with fail
  have hF := (blk_five hcell0 (.int .i64 0) (.int .i64 0) (.slice none 0 0) (.int .i64 0) (.bool false)).alloc (.cells #[.int .i64 0, .int .i64 0, .slice none 0 0, .int .i64 0, .bool false] 31)
  have hb2 := (below_five hbw (Nat.le_refl _) (.int .i64 0) (.int .i64 0) (.slice none 0 0) (.int .i64 0) (.bool false)).alloc (by have := hbw.size; simp <;> omega) (.cells #[.int .i64 0, .int .i64 0, .slice none 0 0, .int .i64 0, .bool false] 31)
  clear hcell hfree
  generalize (World.alloc _ _) = w2 at hF hb2 ⊢
  have hcell := hF.cell
  have hfree := hF.free
  refine bodyPost_ret (v := .tuple #[.agg #[.int .i64 0, .int .i64 0, .slice none 0 0, .int .i64 0, .bool false], .int .i64 6]) ?_ rfl ?_
  · simp [results, Try.results12, go_sem, hcell, hfree]
  · exact ⟨rfl, hb2⟩

/-- how far a scan still has to go -/
def scanLeft (q N : Nat) (w : World) : Nat := match w.cell? ⟨q, 3, none⟩ with
  | some (.int _ g) => N - g.toNat
  | _ => 0
theorem scanLeft_is {q N good : Nat} {w : World} {t : TypeId} {cs : Array Value} (h : BlkIs w q t cs) (hc : cs[3]? = some (.int .i64 (good : Nat))) : scanLeft q N w = N - good := by
  unfold scanLeft
  rw [h.cell, hc]
  simp

theorem read_any (s : ByteArray) (w : World) (hs : s.size ≤ 1000000000) (n sz : Int) (m : Nat) (hb : beginL s.data.toList = some (n, sz, m)) :
    Calls Try.prog 12 #[.string s] w fun e w' => ∃ lv, e = .returned (.tuple #[.agg #[.int .i64 n, .int .i64 sz, lv, .int .i64 ((readRest n s.data.toList [] m).2.1 : Nat), .bool (readRest n s.data.toList [] m).2.2], .int .i64 0]) ∧
      w'.ownsRow w.heap.size 9 1 lv (readRest n s.data.toList [] m).1.length (strVs ((readRest n s.data.toList [] m).1.map mkS)) ∧ Below w.heap.size w w' := by
  have hbg := begin_any s (w.alloc (.cells #[.int .i64 0, .int .i64 0, .slice none 0 0, .int .i64 0, .bool false] 31)) hs
  rw [hb] at hbg
  unfold beginV at hbg
  simp only [] at hbg
  have hm : m ≤ s.size := beginL_le hb
  have Hbg := Lib.hid hbg; clear hbg hb
  obtain ⟨L, hL⟩ : ∃ L, s.data.toList = L := ⟨_, rfl⟩
  have hLs : s.size = L.length := by rw [← hL]; exact size_list s
  rw [hL]
  obtain ⟨R, hR⟩ : ∃ R, readRest n L [] m = R := ⟨_, rfl⟩
  rw [hR]
  have HL := Lib.hid hL; have HLs := Lib.hid hLs; have HR := Lib.hid hR
  clear hL hLs hR
  obtain ⟨i0, hi0, hz0, hz1, hz2⟩ := info_parts info_strC
  go_enter Try.func12, Try.ntmps12
  go_wp2_with fail
  refine Hbg.out.mono ?_
  rintro e w1 ⟨rfl, hb1⟩
  have hB := (BlkIs.new w 31 #[Value.int .i64 0, .int .i64 0, .slice none 0 0, .int .i64 0, .bool false]).below hb1 (by simp)
  have hbw : Below w.heap.size w w1 := ((Below.refl _ _).alloc (Nat.le_refl _) _).trans (hb1.mono (by simp))
  have HB := Lib.hid hB
  have hlt := hB.lt
  have hX := BlkIs.new w1 31 #[.int .i64 n, .int .i64 sz, .slice none 0 0, .int .i64 (m : Nat), .bool false]
  have HX := Lib.hid hX
  obtain ⟨q, hq⟩ : ∃ q, w1.heap.size = q := ⟨_, rfl⟩
  have hqw : w.heap.size < q := by omega
  clear hb1 hB hX
  go_wp2_with fail
  go_loopw [6] (fun b wr => ∃ (bodies : List (List UInt8)) (good : Nat) (d : Bool) (lv : Value), True ∧ BlkIs wr q 31 #[.int .i64 n, .int .i64 sz, lv, .int .i64 (good : Nat), .bool d] ∧
      BlkIs wr w.heap.size 31 #[Value.int .i64 0, .int .i64 0, .slice none 0 0, .int .i64 0, .bool false] ∧
      wr.ownsRow (w.heap.size + 1) 9 1 lv bodies.length (strVs (bodies.map mkS)) ∧ good ≤ s.size ∧ bodies.length ≤ good ∧ Below w.heap.size w wr ∧ (R = if d then (bodies, good, true) else readRest n L bodies good)) (fun _ wr => scanLeft q s.size wr)
  case atStart =>
    refine ⟨[], m, false, _, trivial, by rw [← hq]; exact HX.out, HB.out.alloc _, World.ownsRow_nil _ _ _ _, hm, Nat.zero_le _, hbw.alloc hbw.size _, HR.out.symm⟩
  case round =>
    obtain ⟨bodies, good, d, lv, _, hBx, hBr, hown, hg, hbg, hb, hRR⟩ := hrel
    obtain ⟨A, cp, rfl, hcp⟩ := own_slice hown
    cases d with
    | true =>
      rw [if_pos rfl] at hRR
      subst hRR
      have hcell := hBx.cell
      have hcellr := hBr.cell
      have hfreer := hBr.free
      go_wp2_with fail
      have hF := blk_five hBr (.int .i64 n) (.int .i64 sz) (.slice A bodies.length cp) (.int .i64 (good : Nat)) (.bool true)
      have hb2 := below_five hb (Nat.le_refl _) (.int .i64 n) (.int .i64 sz) (.slice A bodies.length cp) (.int .i64 (good : Nat)) (.bool true)
      have ho2 := own_less (own_five hown (own_ne_below hown (Nat.lt_succ_self _)) (.int .i64 n) (.int .i64 sz) (.slice A bodies.length cp) (.int .i64 (good : Nat)) (.bool true)) (Nat.le_succ _)
      clear hcell hcellr hfreer
      generalize (World.setCell _ _ _) = w9 at hF hb2 ho2 ⊢
      have hcell := hF.cell
      have hfree := hF.free
      refine bodyPost_ret (v := .tuple #[.agg #[.int .i64 n, .int .i64 sz, .slice A bodies.length cp, .int .i64 (good : Nat), .bool true], .int .i64 0]) ?_ rfl ?_
      · simp [results, Try.results12, go_sem, hcell, hfree]
      · exact ⟨_, rfl, ho2, hb2⟩
    | false =>
      rw [if_neg (by decide)] at hRR
      have HRR := Lib.hid hRR; have Hown := Lib.hid hown
      clear hRR hown
      have hf := first_any (s.extract good s.size) wr (by simp; omega)
      have hx : (s.extract good s.size).data.toList = L.drop good := by rw [str_from, HL.out]
      rw [hx] at hf
      obtain ⟨f, hff⟩ : ∃ f, firstL (L.drop good) = f := ⟨_, rfl⟩
      rw [hff] at hf
      have Hf := Lib.hid hf; clear hf hx
      by_cases he : f.2.2 = 0
      · have hd : (f.2.2 != 0) = false := by rw [he]; rfl
        have hok := first_ok (b := L.drop good) (x := f.1) (m := f.2.1) (by rw [hff, ← he])
        rw [List.length_drop] at hok
        obtain ⟨hm1, hx4, hml, _⟩ := hok
        have hml2 : good + f.2.1 ≤ s.size := by rw [HLs.out] at hg ⊢; omega
        have Hm1 := Lib.hid hm1; clear hm1
        by_cases hem : f.1 = []
        · have hnone : readStep n L bodies good = none := by unfold readStep; rw [hff, if_pos (.inr hem)]
          have hr := readRest_none hnone
          rw [HRR.out.symm] at hr
          subst hr
          have hde : (⟨f.1.toArray⟩ : ByteArray) = ByteArray.empty := by rw [hem]; rfl
          clear HR HRR hnone he hff
          have hcell := hBx.cell
          go_wp2_with fail
          refine Hf.out.mono ?_
          rintro e w2 ⟨rfl, hb1⟩
          have hBx1 := hBx.below hb1 hBx.lt
          have hBr1 := hBr.below hb1 hBr.lt
          have hown1 := own_below Hown.out hb1 (fun q hq => (Hown.out.lt q hq).2)
          have hbb := hb.trans (hb1.mono hb.size)
          clear hcell hb1
          have hcell := hBx1.cell
          have hcellr := hBr1.cell
          have hfreer := hBr1.free
          go_wp2_with fail
          have hF := blk_five hBr1 (.int .i64 n) (.int .i64 sz) (.slice A bodies.length cp) (.int .i64 (good : Nat)) (.bool false)
          have hb2 := below_five hbb (Nat.le_refl _) (.int .i64 n) (.int .i64 sz) (.slice A bodies.length cp) (.int .i64 (good : Nat)) (.bool false)
          have ho2 := own_less (own_five hown1 (own_ne_below hown1 (Nat.lt_succ_self _)) (.int .i64 n) (.int .i64 sz) (.slice A bodies.length cp) (.int .i64 (good : Nat)) (.bool false)) (Nat.le_succ _)
          clear hcell hcellr hfreer
          generalize (World.setCell _ _ _) = w9 at hF hb2 ho2 ⊢
          have hcell := hF.cell
          have hfree := hF.free
          refine bodyPost_ret (v := .tuple #[.agg #[.int .i64 n, .int .i64 sz, .slice A bodies.length cp, .int .i64 (good : Nat), .bool false], .int .i64 0]) ?_ rfl ?_
          · simp [results, Try.results12, go_sem, hcell, hfree]
          · exact ⟨_, rfl, ho2, hb2⟩
        · have hne : 0 < f.1.length := List.length_pos_iff.2 hem
          have hne' : f.1.length ≠ 0 := by omega
          have hde : (f.1 == []) = false := by rw [beq_eq_false_iff_ne]; exact hem
          have hde2 : f.1.isEmpty = false := by cases hq : f.1 with | nil => exact absurd hq hem | cons a l => rfl
          have hcut : (⟨f.1.toArray⟩ : ByteArray).extract 0 1 = ⟨(f.1.take 1).toArray⟩ := str_to _ _
          have hone := hne
          have hstep : readStep n L bodies good = if f.1.take 1 = [1] then some (bodies ++ [f.1.drop 1], good + f.2.1, false) else
              if (finishL n bodies.length).1 = (L.drop good).take f.2.1 then some (bodies, good + f.2.1, true) else none := by
            unfold readStep; rw [hff, if_neg (by intro h; rcases h with h | h; exact h he; exact hem h)]
          clear hff he
          by_cases h1 : f.1.take 1 = [1]
          · rw [if_pos h1] at hstep
            have hr := readRest_more hstep
            rw [HRR.out.symm] at hr
            have Hr := Lib.hid hr
            clear HRR hstep hr
            have hd1 : (f.1.take 1 == [1]) = true := by simpa using h1
            have hcell := hBx.cell
            go_wp2_with fail
            refine Hf.out.mono ?_
            rintro e w2 ⟨rfl, hb1⟩
            have hBx1 := hBx.below hb1 hBx.lt
            have hBr1 := hBr.below hb1 hBr.lt
            have hown1 := own_below Hown.out hb1 (fun q hq => (Hown.out.lt q hq).2)
            have hbb := hb.trans (hb1.mono hb.size)
            clear hcell hb1
            have hcell := hBx1.cell
            go_wp2_with fail
            refine (finish_any n bodies.length _).mono ?_
            rintro e w3 ⟨rfl, hb3⟩
            have hBx3 := hBx1.below hb3 hBx1.lt
            have hBr3 := hBr1.below hb3 hBr1.lt
            have hown3 := own_below hown1 hb3 (fun q hq => (hown1.lt q hq).2)
            have hbb3 := hbb.trans (hb3.mono hbb.size)
            clear hcell hb3 hBx1 hBr1 hown1 hbb
            have hcell := hBx3.cell
            have hfreeq := hBx3.free
            have hHB := Lib.hid hBx3
            have hHr := Lib.hid hBr3
            have hHo := Lib.hid hown3
            have hne3 := own_ne_blk hown3 hBx3 (by decide)
            have hqlt := hBx3.lt
            have hrest : (⟨f.1.toArray⟩ : ByteArray).extract 1 f.1.length = mkS (f.1.drop 1) := by rw [← size_mk f.1]; exact str_from _ _
            have Hrest := Lib.hid hrest
            have hi1 : (1 : Int) ≤ (f.1.length : Int) := by omega
            clear hBx3 hBr3 hown3 hrest
            go_wp2_with fail
            go_region_law (refine step_append_lies _ (by rfl) _ _ _ (by rfl) (w.heap.size + 1) 9 i0 _ 1 16 Try.underlying22 hi0 hz0 hz1 hz2 rfl (by omega) _ _ _ (by rfl) ((hHo.out.alloc _).drew) ⟨w3.heap.size, 0, none⟩ 1 1 [.string ((⟨f.1.toArray⟩ : ByteArray).extract 1 f.1.length)] (by rfl) (by rfl) (World.news_of_block (cs := #[.string ((⟨f.1.toArray⟩ : ByteArray).extract 1 f.1.length)]) (t := 9) (fr := (0, 0)) (heap_alloc_new w3 _)) (by simp [Value.oneCell']) (by omega) (by simp only [maxLen]; omega) (by omega) (by have := hbb3.size; simp <;> omega) (w3.heap.size + 1) (by simp) ?_; intro gg cap w4 hown4 hgrow hat hlt1; have hB4 := Lib.hid (((hHB.out.alloc (.cells #[.string ((⟨f.1.toArray⟩ : ByteArray).extract 1 f.1.length)] 9)).drew).grown hgrow (Ne.symm hne3)); have hc4 := hB4.out.cell; have hf4 := hB4.out.free)
            all_goals
              have hbel4 : Below w.heap.size w3 w4 := (((Below.refl _ _).alloc hbb3.size _).drew).grown hgrow (by have := hbb3.size; simp <;> omega) (fun g hg => Nat.le_of_lt (hHo.out.lt g hg).1)
              have hBr4 := (((hHr.out.alloc (.cells #[.string ((⟨f.1.toArray⟩ : ByteArray).extract 1 f.1.length)] 9)).drew).grown hgrow (by intro e; exact own_ne_below hHo.out (Nat.lt_succ_self _) e.symm))
              have hgg : (Value.slice (some ⟨gg, 0, none⟩) (bodies.length + 1) cap).ownBlock ≠ some q := own_ne_blk hown4 hB4.out (by decide)
              have hbr4 := hbb3.trans hbel4
              clear hcell hfreeq
              go_wp2_with fail
              go_roundw
              case rel =>
                refine ⟨bodies ++ [f.1.drop 1], good + f.2.1, false, Value.slice (some ⟨gg, 0, none⟩) (bodies.length + 1) cap, trivial, ?_, ?_, ?_, hml2, ?_, ?_, ?_⟩
                · rw [Int.natCast_add]
                  exact (hB4.out.put 2 _).put 3 _
                · exact (hBr4.far (by simp; omega) _).far (by simp; omega) _
                · have := own_far (own_far hown4 (a := ⟨q, 2, none⟩) hgg (Value.slice (some ⟨gg, 0, none⟩) (bodies.length + 1) cap)) (a := ⟨q, 3, none⟩) hgg (.int .i64 ((good : Int) + (f.2.1 : Nat)))
                  rw [Hrest.out] at this
                  rw [List.length_append, strVs, List.map_append, List.map_append]
                  exact this
                · rw [List.length_append, Hm1.out]; simp; omega
                · exact (hbr4.setCell (p := ⟨q, 2, none⟩) (Nat.le_of_lt hqw) _).setCell (p := ⟨q, 3, none⟩) (Nat.le_of_lt hqw) _
                · rw [if_neg (by decide)]; exact Hr.out
              case measure =>
                have hB5 := (hB4.out.put 2 (Value.slice (some ⟨gg, 0, none⟩) (bodies.length + 1) cap)).put 3 (.int .i64 ((good : Int) + (f.2.1 : Nat)))
                rw [scanLeft_is (good := good + f.2.1) hB5 (by simp), scanLeft_is (good := good) hBx (by simp)]
                have := Hm1.out
                omega
          · rw [if_neg h1] at hstep
            have hd1 : (f.1.take 1 == [1]) = false := by simpa using h1
            obtain ⟨fn, hfn⟩ : ∃ fn, finishL n bodies.length = fn := ⟨_, rfl⟩
            rw [hfn] at hstep
            have hcut2 : (s.extract good (good + f.2.1)).data.toList = (L.drop good).take f.2.1 := by rw [str_cut, HL.out]; simp
            by_cases h2 : fn.1 = (L.drop good).take f.2.1
            · rw [if_pos h2] at hstep
              have hr := readRest_done hstep
              rw [HRR.out.symm] at hr
              have hd2 : (fn.1 == (s.extract good (good + f.2.1)).toList) = true := by rw [ByteArray.toList_eq, hcut2, h2]; simp
              have Hr := Lib.hid hr
              clear HRR hstep hr hcut2 h2 h1
              have Hfn := Lib.hid hfn; clear hfn
              have hcell := hBx.cell
              go_wp2_with fail
              refine Hf.out.mono ?_
              rintro e w2 ⟨rfl, hb1⟩
              have hBx1 := hBx.below hb1 hBx.lt
              have hBr1 := hBr.below hb1 hBr.lt
              have hown1 := own_below Hown.out hb1 (fun q hq => (Hown.out.lt q hq).2)
              have hbb := hb.trans (hb1.mono hb.size)
              clear hcell hb1
              have hcell := hBx1.cell
              go_wp2_with fail
              have hfi := finish_any n bodies.length w2
              rw [Hfn.out] at hfi
              refine hfi.mono ?_
              clear hfi
              rintro e w3 ⟨rfl, hb3⟩
              have hBx3 := hBx1.below hb3 hBx1.lt
              have hBr3 := hBr1.below hb3 hBr1.lt
              have hown3 := own_below hown1 hb3 (fun q hq => (hown1.lt q hq).2)
              have hbb3 := hbb.trans (hb3.mono hbb.size)
              clear hcell hb3 hBx1 hBr1 hown1 hbb
              have hcell := hBx3.cell
              have hfreeq := hBx3.free
              go_wp2_with fail
              go_roundw
              case rel =>
                refine ⟨bodies, good + f.2.1, true, Value.slice A bodies.length cp, trivial, ?_, ?_, ?_, hml2, by omega, ?_, ?_⟩
                · rw [Int.natCast_add]
                  exact (hBx3.put 4 _).put 3 _
                · exact (hBr3.far (by simp; omega) _).far (by simp; omega) _
                · exact own_far (own_far hown3 (a := ⟨q, 4, none⟩) (own_ne_blk hown3 hBx3 (by decide)) (.bool true)) (a := ⟨q, 3, none⟩) (own_ne_blk hown3 hBx3 (by decide)) (.int .i64 ((good : Int) + (f.2.1 : Nat)))
                · exact (hbb3.setCell (p := ⟨q, 4, none⟩) (Nat.le_of_lt hqw) _).setCell (p := ⟨q, 3, none⟩) (Nat.le_of_lt hqw) _
                · rw [if_pos rfl]; exact Hr.out
              case measure =>
                have hB5 := (hBx3.put 4 (.bool true)).put 3 (.int .i64 ((good : Int) + (f.2.1 : Nat)))
                rw [scanLeft_is (good := good + f.2.1) hB5 (by simp), scanLeft_is (good := good) hBx (by simp)]
                have := Hm1.out
                omega
            · rw [if_neg h2] at hstep
              have hr := readRest_none hstep
              rw [HRR.out.symm] at hr
              subst hr
              have hd2 : (fn.1 == (s.extract good (good + f.2.1)).toList) = false := by rw [ByteArray.toList_eq, hcut2]; simpa using h2
              clear HRR HR hstep hcut2 h2 h1
              have Hfn := Lib.hid hfn; clear hfn
              have hcell := hBx.cell
              go_wp2_with fail
              refine Hf.out.mono ?_
              rintro e w2 ⟨rfl, hb1⟩
              have hBx1 := hBx.below hb1 hBx.lt
              have hBr1 := hBr.below hb1 hBr.lt
              have hown1 := own_below Hown.out hb1 (fun q hq => (Hown.out.lt q hq).2)
              have hbb := hb.trans (hb1.mono hb.size)
              clear hcell hb1
              have hcell := hBx1.cell
              go_wp2_with fail
              have hfi := finish_any n bodies.length w2
              rw [Hfn.out] at hfi
              refine hfi.mono ?_
              clear hfi
              rintro e w3 ⟨rfl, hb3⟩
              have hBx3 := hBx1.below hb3 hBx1.lt
              have hBr3 := hBr1.below hb3 hBr1.lt
              have hown3 := own_below hown1 hb3 (fun q hq => (hown1.lt q hq).2)
              have hbb3 := hbb.trans (hb3.mono hbb.size)
              clear hcell hb3 hBx1 hBr1 hown1 hbb
              have hcell := hBx3.cell
              have hcellr := hBr3.cell
              have hfreer := hBr3.free
              go_wp2_with fail
              have hF := blk_five hBr3 (.int .i64 n) (.int .i64 sz) (.slice A bodies.length cp) (.int .i64 (good : Nat)) (.bool false)
              have hb2 := below_five hbb3 (Nat.le_refl _) (.int .i64 n) (.int .i64 sz) (.slice A bodies.length cp) (.int .i64 (good : Nat)) (.bool false)
              have ho2 := own_less (own_five hown3 (own_ne_below hown3 (Nat.lt_succ_self _)) (.int .i64 n) (.int .i64 sz) (.slice A bodies.length cp) (.int .i64 (good : Nat)) (.bool false)) (Nat.le_succ _)
              clear hcell hcellr hfreer
              generalize (World.setCell _ _ _) = w9 at hF hb2 ho2 ⊢
              have hcell := hF.cell
              have hfree := hF.free
              refine bodyPost_ret (v := .tuple #[.agg #[.int .i64 n, .int .i64 sz, .slice A bodies.length cp, .int .i64 (good : Nat), .bool false], .int .i64 0]) ?_ rfl ?_
              · simp [results, Try.results12, go_sem, hcell, hfree]
              · exact ⟨_, rfl, ho2, hb2⟩
      · have hd : (f.2.2 != 0) = true := by rw [bne_iff_ne]; exact he
        have hnone : readStep n L bodies good = none := by unfold readStep; rw [hff, if_pos (.inl he)]
        have hr := readRest_none hnone
        rw [HRR.out.symm] at hr
        subst hr
        clear HR HRR hnone he hff
        have hcell := hBx.cell
        go_wp2_with fail
        refine Hf.out.mono ?_
        rintro e w2 ⟨rfl, hb1⟩
        have hBx1 := hBx.below hb1 hBx.lt
        have hBr1 := hBr.below hb1 hBr.lt
        have hown1 := own_below Hown.out hb1 (fun q hq => (Hown.out.lt q hq).2)
        have hbb := hb.trans (hb1.mono hb.size)
        clear hcell hb1
        have hcell := hBx1.cell
        have hcellr := hBr1.cell
        have hfreer := hBr1.free
        go_wp2_with fail
        have hF := blk_five hBr1 (.int .i64 n) (.int .i64 sz) (.slice A bodies.length cp) (.int .i64 (good : Nat)) (.bool false)
        have hb2 := below_five hbb (Nat.le_refl _) (.int .i64 n) (.int .i64 sz) (.slice A bodies.length cp) (.int .i64 (good : Nat)) (.bool false)
        have ho2 := own_less (own_five hown1 (own_ne_below hown1 (Nat.lt_succ_self _)) (.int .i64 n) (.int .i64 sz) (.slice A bodies.length cp) (.int .i64 (good : Nat)) (.bool false)) (Nat.le_succ _)
        clear hcell hcellr hfreer
        generalize (World.setCell _ _ _) = w9 at hF hb2 ho2 ⊢
        have hcell := hF.cell
        have hfree := hF.free
        refine bodyPost_ret (v := .tuple #[.agg #[.int .i64 n, .int .i64 sz, .slice A bodies.length cp, .int .i64 (good : Nat), .bool false], .int .i64 0]) ?_ rfl ?_
        · simp [results, Try.results12, go_sem, hcell, hfree]
        · exact ⟨_, rfl, ho2, hb2⟩
end Go.Proofs.Ytolgjknpifpmbaa
