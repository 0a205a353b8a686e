/- chronicleref7: Chunk, walked. -/
import Derived.Test.YtolgjknpifpmbaaRefChunk
import Derived.Test.YtolgjknpifpmbaaRefFirst1
import Derived.Test.YtolgjknpifpmbaaChunkRead
import Derived.Test.YtolgjknpifpmbaaChunkLaw2
import Derived.Deep.DeepCutAuto
import Derived.Deep.RegionHeld3
namespace Go.Proofs.Ytolgjknpifpmbaa
open Go.RowKit
set_option maxHeartbeats 2000000
set_option maxRecDepth 100000
set_option linter.unusedVariables false

theorem refValue64_any (s : ByteArray) (w : World) (hs : s.size = 8) :
    Calls Try.prog 31 #[.string s] w fun e w' => e = .returned (.int .i64 (i64L s.data.toList)) ∧ Below w.heap.size w w' := by
  obtain ⟨l, hl⟩ : ∃ l, s.data.toList = l := ⟨_, rfl⟩
  have hsl : s.size = l.length := by rw [← hl]; exact size_list s
  have hse : s = ⟨l.toArray⟩ := str_mk hl
  have hin := inNum_all l
  subst hse
  rw [hl]
  have hlen : l.length ≤ 8 := by omega
  have hv : i64L l = wrap64 ((beVal l : Nat) : Int) := rfl
  generalize hx : beVal l = x at hin hv
  have Hin := Lib.hid hin; have Hv := Lib.hid hv
  clear hin hl hsl hx hs hv
  go_enter Try.func31, Try.ntmps31
  go_wp2_with fail
  refine (refInNum_any w.heap.size w.heap.size l.length l 0 _ (RinIs.new w l) (by omega) (by omega)).mono ?_
  rintro e w1 ⟨rfl, _, hb1⟩
  rw [Hin.out]
  have hbw : Below w.heap.size w w1 := ((Below.refl _ _).alloc (Nat.le_refl _) _).trans hb1
  go_wp2_with fail
  go_ret
  rw [Hv.out]
  exact ⟨rfl, hbw⟩

/-- the document looks for the end ahead of the records: it is the same -/
theorem readStep_ref {n : Int} {b : List UInt8} {l : List (List UInt8)} {good : Nat} {f : List UInt8 × Nat × Int} (hf : firstL (b.drop good) = f) (he : f.2.2 = 0) (hne : f.1 ≠ []) :
    readStep n b l good = if (finishL n l.length).1 = (b.drop good).take f.2.1 then some (l, good + f.2.1, true) else if f.1.take 1 = [1] then some (l ++ [f.1.drop 1], good + f.2.1, false) else none := by
  unfold readStep
  rw [hf, if_neg (by rintro (h | h); exact h he; exact hne h)]
  by_cases h1 : f.1.take 1 = [1]
  · rw [if_pos h1]
    by_cases h2 : (finishL n l.length).1 = (b.drop good).take f.2.1
    · exfalso
      have ho := first_ok (b := b.drop good) (x := f.1) (m := f.2.1) (by rw [hf, ← he])
      rw [ho.2.2.2] at h2
      unfold finishL at h2
      split at h2
      · have := frameL_inj h2
        rw [← this] at h1
        simp [finishB] at h1
      · have := congrArg List.length h2
        rw [frameL_length] at this
        simp at this
    · rw [if_neg h2, if_pos h1]
  · rw [if_neg h1, if_neg h1]

theorem first_byte (l : List UInt8) (h : 0 < (⟨l.toArray⟩ : ByteArray).size) : ((((⟨l.toArray⟩ : ByteArray)[0]'h).toNat : Int) != 1) = !(l.take 1 == [1]) := by
  cases l with
  | nil => simp [ByteArray.size] at h
  | cons c l =>
    show ((c.toNat : Int) != 1) = !([c] == [1])
    by_cases hc : c = 1
    · subst hc; rfl
    · have h1 : ([c] == [1]) = false := by rw [beq_eq_false_iff_ne]; intro e; injection e with e; exact hc e
      have h2 : ((c.toNat : Int) != 1) = true := by
        rw [bne_iff_ne]
        intro e
        apply hc
        apply UInt8.toNat_inj.1
        show c.toNat = 1
        omega
      rw [h1, h2]; rfl
theorem zero_at {w w' : World} (h : Below (w.alloc (.cells #[.int .i64 0, .int .i64 0, .slice none 0 0, .int .i64 0, .bool false] 50)).drew.heap.size (w.alloc (.cells #[.int .i64 0, .int .i64 0, .slice none 0 0, .int .i64 0, .bool false] 50)).drew w') : BlkIs w' w.heap.size 50 #[.int .i64 0, .int .i64 0, .slice none 0 0, .int .i64 0, .bool false] :=
  (BlkIs.new w 50 #[.int .i64 0, .int .i64 0, .slice none 0 0, .int .i64 0, .bool false]).below (below_undrew h) (by show _ < (w.alloc _).heap.size; simp)
theorem zero_at2 {w w' : World} (h : Below (w.alloc (.cells #[.int .i64 0, .int .i64 0, .slice none 0 0, .int .i64 0, .bool false] 50)).heap.size (w.alloc (.cells #[.int .i64 0, .int .i64 0, .slice none 0 0, .int .i64 0, .bool false] 50)) w') : BlkIs w' w.heap.size 50 #[.int .i64 0, .int .i64 0, .slice none 0 0, .int .i64 0, .bool false] :=
  (BlkIs.new w 50 #[.int .i64 0, .int .i64 0, .slice none 0 0, .int .i64 0, .bool false]).below h (by simp)

theorem refChunkBad_any (s : ByteArray) (w : World) (hs : s.size ≤ 1000000000) (hb : beginL s.data.toList = none) :
    Calls Try.prog 19 #[.string s] w fun e w' => e = .returned (.tuple #[.agg #[.int .i64 0, .int .i64 0, .slice none 0 0, .int .i64 0, .bool false], .int .i64 6]) ∧ Below w.heap.size w w' := by
  obtain ⟨L, hL⟩ : ∃ L, s.data.toList = L := ⟨_, rfl⟩
  have hLs : s.size = L.length := by rw [← hL]; exact size_list s
  have hfst := fun w => refFirst_any s w hs
  rw [hL] at hfst hb
  obtain ⟨f, hf⟩ : ∃ f, firstL L = f := ⟨_, rfl⟩
  rw [hf] at hfst
  unfold beginL at hb
  rw [hf] at hb
  have Hfst := Lib.hid hfst; have HL := Lib.hid hL
  have hz := (BlkIs.new w 50 #[Value.int .i64 0, .int .i64 0, .slice none 0 0, .int .i64 0, .bool false])
  have Hz := Lib.hid hz
  clear hfst hL hz
  by_cases he : f.2.2 = 0
  · have hok := first_ok (b := L) (x := f.1) (m := f.2.1) (by rw [hf, ← he])
    have hd : (f.2.2 != 0) = false := by rw [he]; rfl
    by_cases hl21 : f.1.length = 21
    · rw [if_neg (by rintro (h | h); exact h he; exact h hl21)] at hb
      obtain ⟨n, hn⟩ : ∃ n, i64L ((f.1.drop 5).take 8) = n := ⟨_, rfl⟩
      obtain ⟨sz, hsz⟩ : ∃ sz, i64L ((f.1.drop 13).take 8) = sz := ⟨_, rfl⟩
      rw [hn, hsz] at hb
      have hszb : -9223372036854775808 ≤ sz ∧ sz ≤ 9223372036854775807 := by rw [← hsz]; exact wrap64_in64 _
      have hv1 := fun w => refValue64_any ((⟨f.1.toArray⟩ : ByteArray).extract 5 13) w (by rw [ByteArray.size_extract, size_mk]; omega)
      rw [show ((⟨f.1.toArray⟩ : ByteArray).extract 5 13).data.toList = (f.1.drop 5).take 8 from by rw [str_cut], hn] at hv1
      have hv2 := fun w => refValue64_any ((⟨f.1.toArray⟩ : ByteArray).extract 13 21) w (by rw [ByteArray.size_extract, size_mk]; omega)
      rw [show ((⟨f.1.toArray⟩ : ByteArray).extract 13 21).data.toList = (f.1.drop 13).take 8 from by rw [str_cut], hsz] at hv2
      obtain ⟨st, hst⟩ : ∃ st, startL n sz = st := ⟨_, rfl⟩
      have hstart := fun w => refStart_any n sz w hszb
      rw [hst] at hstart hb
      have Hv1 := Lib.hid hv1; have Hv2 := Lib.hid hv2; have Hstart := Lib.hid hstart
      have hl13 : (13 : Int) ≤ (f.1.length : Int) := by omega
      have hd2 : ((f.1.length : Int) != 21) = false := by rw [bne_eq_false_iff_eq]; omega
      have tok1 : True := trivial
      have hm2 : (f.2.1 : Int) ≤ (s.size : Int) := by have := hok.2.2.1; omega
      have hcut0 : (s.extract 0 f.2.1).data.toList = L.take f.2.1 := by rw [str_to, HL.out]
      have Hcut0 := Lib.hid hcut0
      clear hv1 hv2 hn hsz hok he hf hst hstart hcut0
      by_cases h1 : st.2 = 0
      · have hd3 : (st.2 != 0) = false := by rw [h1]; rfl
        by_cases h2 : st.1 = L.take f.2.1
        · rw [if_neg (by intro h; rcases h with h | h; exact h h1; exact h h2)] at hb
          cases hb
        · have hd4 : (!st.1 == (s.extract 0 f.2.1).toList) = true := by rw [ByteArray.toList_eq, Hcut0.out]; simpa using h2
          clear hb h1 h2
          go_enter Try.func19, Try.ntmps19
          go_wp2_with fail
          refine (Hfst.out _).mono ?_
          rintro e w1 ⟨rfl, hb1⟩
          have hB1 := Hz.out.below hb1 (by simp)
          have hbw : Below w.heap.size w w1 := ((Below.refl _ _).alloc (Nat.le_refl _) _).trans (hb1.mono (by simp))
          have HB1 := Lib.hid hB1; have Hbw := Lib.hid hbw
          have hsw : w.heap.size < w1.heap.size := hB1.lt
          clear hb1 hB1 hbw
          go_upto_region 4 with fail
          go_cut [7] (fun s7 wx => ∃ q, s7 = .pointer (some ⟨q, 0, none⟩) ∧ BlkIs wx q 50 #[.int .i64 n, .int .i64 sz, .slice none 0 0, .int .i64 (f.2.1 : Nat), .bool false] ∧ w1.heap.size ≤ q ∧ Below w1.heap.size w1 wx)
          case first =>
            go_region_held3 (fun wx => True) (exact trivial) ((first
              | (have _t := tok1; clear tok1 _t; go_at_call 31; refine (Hv1.out _).mono ?_; rintro e w2 ⟨rfl, hb2⟩; have hbw2 : Below w1.heap.size w1 w2 := (by first | exact below_undrew hb2 | exact below_unalloc (below_undrew hb2)); (first | (have hq2 := zero_at hb2; have hqc := hq2.cell; have hqf := hq2.free; have hql := hq2.lt) | skip))
              | (go_at_call 31; refine (Hv2.out _).mono ?_; rintro e w3 ⟨rfl, hb3⟩; have hbw3 : Below w2.heap.size w2 w3 := (by first | exact hb3 | exact below_unalloc hb3 | exact below_undrew hb3 | exact below_unalloc (below_undrew hb3)); (first | (have hq3 := hq2.below hbw3 hq2.lt; have hrc := hq3.cell; have hrf := hq3.free; have hrl := hq3.lt) | (have hq3 := zero_at2 hb3; have hrc := hq3.cell; have hrf := hq3.free; have hrl := hq3.lt) | skip))))
            all_goals
              have hbw13 := hbw2.trans (hbw3.mono hbw2.size)
              go_wp2_with fail
              go_meet
              first
                | with_reducible exact ⟨w1.heap.size, rfl, blk_five hq3 _ _ _ _ _, Nat.le_refl _, below_five hbw13 (Nat.le_refl _) _ _ _ _ _⟩
                | with_reducible exact ⟨w2.heap.size, rfl, blk_five hq3 _ _ _ _ _, hbw2.size, below_five hbw13 hbw2.size _ _ _ _ _⟩
                | exact ⟨w3.heap.size, rfl, BlkIs.new _ _ _, hbw13.size, hbw13.alloc hbw13.size _⟩
          case rest =>
            obtain ⟨q, rfl, hX, hq1, hbc⟩ := hcut
            have hBc := HB1.out.below hbc HB1.out.lt
            have hbwc := Hbw.out.trans (hbc.mono Hbw.out.size)
            have hqw : w.heap.size < q := Nat.lt_of_lt_of_le hsw hq1
            have hxc := hX.cell
            have HX := Lib.hid hX; have HBc := Lib.hid hBc; have Hbwc := Lib.hid hbwc
            clear hX hBc hbwc hbc
            go_wp2_with fail
            refine (Hstart.out _).mono ?_
            rintro e w5 ⟨rfl, hb5⟩
            have hX5 := HX.out.below hb5 HX.out.lt
            have hB5 := HBc.out.below hb5 HBc.out.lt
            have hbw5 := Hbwc.out.trans (hb5.mono Hbwc.out.size)
            clear hxc hb5
            have hlt := hB5.lt
            have hcell := hB5.cell
            have hfree := hB5.free
            go_wp2_with fail
            have hF := (blk_five hB5 (.int .i64 0) (.int .i64 0) (.slice none 0 0) (.int .i64 0) (.bool false))
            have hb2 := (below_five hbw5 (Nat.le_refl _) (.int .i64 0) (.int .i64 0) (.slice none 0 0) (.int .i64 0) (.bool false))
            clear hcell hfree
            generalize (World.setCell _ _ _) = w9 at hF hb2 ⊢
            have hcell := hF.cell
            have hfree := hF.free
            refine bodyPost_ret (v := .tuple #[.agg #[.int .i64 0, .int .i64 0, .slice none 0 0, .int .i64 0, .bool false], .int .i64 6]) ?_ rfl ?_
            · simp [results, Try.results19, go_sem, hcell, hfree]
            · exact ⟨rfl, hb2⟩
      · have hd3 : (st.2 != 0) = true := by rw [bne_iff_ne]; exact h1
        clear hb h1
        go_enter Try.func19, Try.ntmps19
        go_wp2_with fail
        refine (Hfst.out _).mono ?_
        rintro e w1 ⟨rfl, hb1⟩
        have hB1 := Hz.out.below hb1 (by simp)
        have hbw : Below w.heap.size w w1 := ((Below.refl _ _).alloc (Nat.le_refl _) _).trans (hb1.mono (by simp))
        have HB1 := Lib.hid hB1; have Hbw := Lib.hid hbw
        have hsw : w.heap.size < w1.heap.size := hB1.lt
        clear hb1 hB1 hbw
        go_upto_region 4 with fail
        go_cut [7] (fun s7 wx => ∃ q, s7 = .pointer (some ⟨q, 0, none⟩) ∧ BlkIs wx q 50 #[.int .i64 n, .int .i64 sz, .slice none 0 0, .int .i64 (f.2.1 : Nat), .bool false] ∧ w1.heap.size ≤ q ∧ Below w1.heap.size w1 wx)
        case first =>
          go_region_held3 (fun wx => True) (exact trivial) ((first
            | (have _t := tok1; clear tok1 _t; go_at_call 31; refine (Hv1.out _).mono ?_; rintro e w2 ⟨rfl, hb2⟩; have hbw2 : Below w1.heap.size w1 w2 := (by first | exact below_undrew hb2 | exact below_unalloc (below_undrew hb2)); (first | (have hq2 := zero_at hb2; have hqc := hq2.cell; have hqf := hq2.free; have hql := hq2.lt) | skip))
            | (go_at_call 31; refine (Hv2.out _).mono ?_; rintro e w3 ⟨rfl, hb3⟩; have hbw3 : Below w2.heap.size w2 w3 := (by first | exact hb3 | exact below_unalloc hb3 | exact below_undrew hb3 | exact below_unalloc (below_undrew hb3)); (first | (have hq3 := hq2.below hbw3 hq2.lt; have hrc := hq3.cell; have hrf := hq3.free; have hrl := hq3.lt) | (have hq3 := zero_at2 hb3; have hrc := hq3.cell; have hrf := hq3.free; have hrl := hq3.lt) | skip))))
          all_goals
            have hbw13 := hbw2.trans (hbw3.mono hbw2.size)
            go_wp2_with fail
            go_meet
            first
              | with_reducible exact ⟨w1.heap.size, rfl, blk_five hq3 _ _ _ _ _, Nat.le_refl _, below_five hbw13 (Nat.le_refl _) _ _ _ _ _⟩
              | with_reducible exact ⟨w2.heap.size, rfl, blk_five hq3 _ _ _ _ _, hbw2.size, below_five hbw13 hbw2.size _ _ _ _ _⟩
              | exact ⟨w3.heap.size, rfl, BlkIs.new _ _ _, hbw13.size, hbw13.alloc hbw13.size _⟩
        case rest =>
          obtain ⟨q, rfl, hX, hq1, hbc⟩ := hcut
          have hBc := HB1.out.below hbc HB1.out.lt
          have hbwc := Hbw.out.trans (hbc.mono Hbw.out.size)
          have hqw : w.heap.size < q := Nat.lt_of_lt_of_le hsw hq1
          have hxc := hX.cell
          have HX := Lib.hid hX; have HBc := Lib.hid hBc; have Hbwc := Lib.hid hbwc
          clear hX hBc hbwc hbc
          go_wp2_with fail
          refine (Hstart.out _).mono ?_
          rintro e w5 ⟨rfl, hb5⟩
          have hX5 := HX.out.below hb5 HX.out.lt
          have hB5 := HBc.out.below hb5 HBc.out.lt
          have hbw5 := Hbwc.out.trans (hb5.mono Hbwc.out.size)
          clear hxc hb5
          have hlt := hB5.lt
          have hcell := hB5.cell
          have hfree := hB5.free
          go_wp2_with fail
          have hF := (blk_five hB5 (.int .i64 0) (.int .i64 0) (.slice none 0 0) (.int .i64 0) (.bool false))
          have hb2 := (below_five hbw5 (Nat.le_refl _) (.int .i64 0) (.int .i64 0) (.slice none 0 0) (.int .i64 0) (.bool false))
          clear hcell hfree
          generalize (World.setCell _ _ _) = w9 at hF hb2 ⊢
          have hcell := hF.cell
          have hfree := hF.free
          refine bodyPost_ret (v := .tuple #[.agg #[.int .i64 0, .int .i64 0, .slice none 0 0, .int .i64 0, .bool false], .int .i64 6]) ?_ rfl ?_
          · simp [results, Try.results19, go_sem, hcell, hfree]
          · exact ⟨rfl, hb2⟩
    · have hl4 := hok.2.1
      have hd2 : ((f.1.length : Int) != 21) = true := by rw [bne_iff_ne]; omega
      clear hb hok he hf
      go_enter Try.func19, Try.ntmps19
      go_wp2_with fail
      refine (Hfst.out _).mono ?_
      rintro e w1 ⟨rfl, hb1⟩
      have hB1 := Hz.out.below hb1 (by simp)
      have hbw : Below w.heap.size w w1 := ((Below.refl _ _).alloc (Nat.le_refl _) _).trans (hb1.mono (by simp))
      have hlt := hB1.lt
      have hcell := hB1.cell
      have hfree := hB1.free
      clear hb1
      go_wp2_with fail
      have hF := (blk_five hB1 (.int .i64 0) (.int .i64 0) (.slice none 0 0) (.int .i64 0) (.bool false))
      have hb2 := (below_five hbw (Nat.le_refl _) (.int .i64 0) (.int .i64 0) (.slice none 0 0) (.int .i64 0) (.bool false))
      clear hcell hfree
      generalize (World.setCell _ _ _) = w2 at hF hb2 ⊢
      have hcell := hF.cell
      have hfree := hF.free
      refine bodyPost_ret (v := .tuple #[.agg #[.int .i64 0, .int .i64 0, .slice none 0 0, .int .i64 0, .bool false], .int .i64 6]) ?_ rfl ?_
      · simp [results, Try.results19, go_sem, hcell, hfree]
      · exact ⟨rfl, hb2⟩
  · have hd : (f.2.2 != 0) = true := by rw [bne_iff_ne]; exact he
    clear hb hf he
    go_enter Try.func19, Try.ntmps19
    go_wp2_with fail
    refine (Hfst.out _).mono ?_
    rintro e w1 ⟨rfl, hb1⟩
    have hB1 := Hz.out.below hb1 (by simp)
    have hbw : Below w.heap.size w w1 := ((Below.refl _ _).alloc (Nat.le_refl _) _).trans (hb1.mono (by simp))
    have hlt := hB1.lt
    have hcell := hB1.cell
    have hfree := hB1.free
    clear hb1
    go_wp2_with fail
    have hF := (blk_five hB1 (.int .i64 0) (.int .i64 0) (.slice none 0 0) (.int .i64 0) (.bool false))
    have hb2 := (below_five hbw (Nat.le_refl _) (.int .i64 0) (.int .i64 0) (.slice none 0 0) (.int .i64 0) (.bool false))
    clear hcell hfree
    generalize (World.setCell _ _ _) = w2 at hF hb2 ⊢
    have hcell := hF.cell
    have hfree := hF.free
    refine bodyPost_ret (v := .tuple #[.agg #[.int .i64 0, .int .i64 0, .slice none 0 0, .int .i64 0, .bool false], .int .i64 6]) ?_ rfl ?_
    · simp [results, Try.results19, go_sem, hcell, hfree]
    · exact ⟨rfl, hb2⟩

theorem refChunk_any (s : ByteArray) (w : World) (hs : s.size ≤ 1000000000) (n0 sz0 : Int) (m0 : Nat) (hb : beginL s.data.toList = some (n0, sz0, m0)) :
    Calls Try.prog 19 #[.string s] w fun e w' => ∃ lv, e = .returned (.tuple #[.agg #[.int .i64 n0, .int .i64 sz0, lv, .int .i64 ((readRest n0 s.data.toList [] m0).2.1 : Nat), .bool (readRest n0 s.data.toList [] m0).2.2], .int .i64 0]) ∧
      w'.ownsRow w.heap.size 9 1 lv (readRest n0 s.data.toList [] m0).1.length (strVs ((readRest n0 s.data.toList [] m0).1.map mkS)) ∧ Below w.heap.size w w' := by
  obtain ⟨i0, hi0, hz0, hz1, hz2⟩ := info_parts info_strC
  obtain ⟨L, hL⟩ : ∃ L, s.data.toList = L := ⟨_, rfl⟩
  have hLs : s.size = L.length := by rw [← hL]; exact size_list s
  have hfst := fun w => refFirst_any s w hs
  rw [hL] at hfst hb ⊢
  obtain ⟨f, hf⟩ : ∃ f, firstL L = f := ⟨_, rfl⟩
  rw [hf] at hfst
  unfold beginL at hb
  rw [hf] at hb
  have Hfst := Lib.hid hfst; have HL := Lib.hid hL; have HLs := Lib.hid hLs
  have hz := (BlkIs.new w 50 #[Value.int .i64 0, .int .i64 0, .slice none 0 0, .int .i64 0, .bool false])
  have Hz := Lib.hid hz
  have hg1 : f.2.2 = 0 ∧ f.1.length = 21 := by
    by_cases h : f.2.2 ≠ 0 ∨ f.1.length ≠ 21
    · rw [if_pos h] at hb; cases hb
    · exact ⟨Classical.byContradiction fun e => h (.inl e), Classical.byContradiction fun e => h (.inr e)⟩
  obtain ⟨he, hl21⟩ := hg1
  rw [if_neg (by rintro (h | h); exact h he; exact h hl21)] at hb
  have hok := first_ok (b := L) (x := f.1) (m := f.2.1) (by rw [hf, ← he])
  have hd : (f.2.2 != 0) = false := by rw [he]; rfl
  have hm9 : f.2.1 ≤ s.size := by have := hok.2.2.1; omega
  clear hfst hL hz
  obtain ⟨n, hn⟩ : ∃ n, i64L ((f.1.drop 5).take 8) = n := ⟨_, rfl⟩
  obtain ⟨sz, hsz⟩ : ∃ sz, i64L ((f.1.drop 13).take 8) = sz := ⟨_, rfl⟩
  rw [hn, hsz] at hb
  have hszb : -9223372036854775808 ≤ sz ∧ sz ≤ 9223372036854775807 := by rw [← hsz]; exact wrap64_in64 _
  have hv1 := fun w => refValue64_any ((⟨f.1.toArray⟩ : ByteArray).extract 5 13) w (by rw [ByteArray.size_extract, size_mk]; omega)
  rw [show ((⟨f.1.toArray⟩ : ByteArray).extract 5 13).data.toList = (f.1.drop 5).take 8 from by rw [str_cut], hn] at hv1
  have hv2 := fun w => refValue64_any ((⟨f.1.toArray⟩ : ByteArray).extract 13 21) w (by rw [ByteArray.size_extract, size_mk]; omega)
  rw [show ((⟨f.1.toArray⟩ : ByteArray).extract 13 21).data.toList = (f.1.drop 13).take 8 from by rw [str_cut], hsz] at hv2
  obtain ⟨st, hst⟩ : ∃ st, startL n sz = st := ⟨_, rfl⟩
  have hstart := fun w => refStart_any n sz w hszb
  rw [hst] at hstart hb
  have Hv1 := Lib.hid hv1; have Hv2 := Lib.hid hv2; have Hstart := Lib.hid hstart
  have hl13 : (13 : Int) ≤ (f.1.length : Int) := by omega
  have hd2 : ((f.1.length : Int) != 21) = false := by rw [bne_eq_false_iff_eq]; omega
  have tok1 : True := trivial
  have hm2 : (f.2.1 : Int) ≤ (s.size : Int) := by omega
  have hcut0 : (s.extract 0 f.2.1).data.toList = L.take f.2.1 := by rw [str_to, HL.out]
  have Hcut0 := Lib.hid hcut0
  clear hv1 hv2 hn hsz hok he hf hst hstart hcut0
  have hg2 : st.2 = 0 ∧ st.1 = L.take f.2.1 := by
    by_cases h : st.2 ≠ 0 ∨ st.1 ≠ L.take f.2.1
    · rw [if_pos h] at hb; cases hb
    · exact ⟨Classical.byContradiction fun e => h (.inl e), Classical.byContradiction fun e => h (.inr e)⟩
  obtain ⟨h1, h2⟩ := hg2
  rw [if_neg (by rintro (h | h); exact h h1; exact h h2)] at hb
  simp only [Option.some.injEq, Prod.mk.injEq] at hb
  obtain ⟨rfl, rfl, rfl⟩ := hb
  have hd3 : (st.2 != 0) = false := by rw [h1]; rfl
  have hd4 : (!st.1 == (s.extract 0 f.2.1).toList) = false := by rw [ByteArray.toList_eq, Hcut0.out, h2]; simp
  obtain ⟨R, hR⟩ : ∃ R, readRest n L [] f.2.1 = R := ⟨_, rfl⟩
  rw [hR]
  have HR := Lib.hid hR
  clear h1 h2 hR hLs
  go_enter Try.func19, Try.ntmps19
  go_wp2_with fail
  refine (Hfst.out _).mono ?_
  rintro e w1 ⟨rfl, hb1⟩
  have hB1 := Hz.out.below hb1 (by simp)
  have hbw : Below w.heap.size w w1 := ((Below.refl _ _).alloc (Nat.le_refl _) _).trans (hb1.mono (by simp))
  have HB1 := Lib.hid hB1; have Hbw := Lib.hid hbw
  have hsw : w.heap.size < w1.heap.size := hB1.lt
  clear hb1 hB1 hbw
  go_upto_region 4 with fail
  go_cut [7] (fun s7 wx => ∃ q, s7 = .pointer (some ⟨q, 0, none⟩) ∧ BlkIs wx q 50 #[.int .i64 n, .int .i64 sz, .slice none 0 0, .int .i64 (f.2.1 : Nat), .bool false] ∧ w1.heap.size ≤ q ∧ Below w1.heap.size w1 wx)
  case first =>
    go_region_held3 (fun wx => True) (exact trivial) ((first
      | (have _t := tok1; clear tok1 _t; go_at_call 31; refine (Hv1.out _).mono ?_; rintro e w2 ⟨rfl, hb2⟩; have hbw2 : Below w1.heap.size w1 w2 := (by first | exact below_undrew hb2 | exact below_unalloc (below_undrew hb2)); (first | (have hq2 := zero_at hb2; have hqc := hq2.cell; have hqf := hq2.free; have hql := hq2.lt) | skip))
      | (go_at_call 31; refine (Hv2.out _).mono ?_; rintro e w3 ⟨rfl, hb3⟩; have hbw3 : Below w2.heap.size w2 w3 := (by first | exact hb3 | exact below_unalloc hb3 | exact below_undrew hb3 | exact below_unalloc (below_undrew hb3)); (first | (have hq3 := hq2.below hbw3 hq2.lt; have hrc := hq3.cell; have hrf := hq3.free; have hrl := hq3.lt) | (have hq3 := zero_at2 hb3; have hrc := hq3.cell; have hrf := hq3.free; have hrl := hq3.lt) | skip))))
    all_goals
      have hbw13 := hbw2.trans (hbw3.mono hbw2.size)
      go_wp2_with fail
      go_meet
      first
        | with_reducible exact ⟨w1.heap.size, rfl, blk_five hq3 _ _ _ _ _, Nat.le_refl _, below_five hbw13 (Nat.le_refl _) _ _ _ _ _⟩
        | with_reducible exact ⟨w2.heap.size, rfl, blk_five hq3 _ _ _ _ _, hbw2.size, below_five hbw13 hbw2.size _ _ _ _ _⟩
        | exact ⟨w3.heap.size, rfl, BlkIs.new _ _ _, hbw13.size, hbw13.alloc hbw13.size _⟩
  case rest =>
    obtain ⟨q, rfl, hX, hq1, hbc⟩ := hcut
    have hBc := HB1.out.below hbc HB1.out.lt
    have hbwc := Hbw.out.trans (hbc.mono Hbw.out.size)
    have hqw : w.heap.size < q := Nat.lt_of_lt_of_le hsw hq1
    have hxc := hX.cell
    have HX := Lib.hid hX; have HBc := Lib.hid hBc; have Hbwc := Lib.hid hbwc
    clear hX hBc hbwc hbc
    go_wp2_with fail
    refine (Hstart.out _).mono ?_
    rintro e w5 ⟨rfl, hb5⟩
    have hX5 := HX.out.below hb5 HX.out.lt
    have hB5 := HBc.out.below hb5 HBc.out.lt
    have hbw5 := Hbwc.out.trans (hb5.mono Hbwc.out.size)
    clear hxc hb5
    have hl5 := hX5.lt
    have HX5 := Lib.hid hX5; have HB5 := Lib.hid hB5; have Hbw5 := Lib.hid hbw5
    clear hX5 hB5 hbw5
    go_wp2_with fail
    go_loopw [4] (fun b wr => ∃ (bodies : List (List UInt8)) (good : Nat) (lv : Value), True ∧ BlkIs wr q 50 #[.int .i64 n, .int .i64 sz, lv, .int .i64 (good : Nat), .bool false] ∧
        BlkIs wr w.heap.size 50 #[Value.int .i64 0, .int .i64 0, .slice none 0 0, .int .i64 0, .bool false] ∧
        wr.ownsRow (w.heap.size + 1) 9 1 lv bodies.length (strVs (bodies.map mkS)) ∧ good ≤ s.size ∧ bodies.length ≤ good ∧ Below w.heap.size w wr ∧ R = readRest n L bodies good) (fun _ wr => scanLeft q s.size wr)
    case atStart => exact ⟨[], f.2.1, _, trivial, HX5.out, HB5.out, World.ownsRow_nil _ _ _ _, hm9, Nat.zero_le _, Hbw5.out, HR.out.symm⟩
    case round =>
      obtain ⟨bodies, good, lv, _, hBx, hBr, hown, hg, hbg, hb, hRR⟩ := hrel
      obtain ⟨A, cp, rfl, hcp⟩ := own_slice hown
      have HRR := Lib.hid hRR; have Hown := Lib.hid hown
      clear hRR hown
      have hf := refFirst_any (s.extract good s.size) wr (by simp; omega)
      have hx : (s.extract good s.size).data.toList = L.drop good := by rw [str_from, HL.out]
      rw [hx] at hf
      obtain ⟨f, hff⟩ : ∃ f, firstL (L.drop good) = f := ⟨_, rfl⟩
      rw [hff] at hf
      have Hf := Lib.hid hf; clear hf hx
      by_cases he : f.2.2 = 0
      · have hd : (f.2.2 != 0) = false := by rw [he]; rfl
        have hok := first_ok (b := L.drop good) (x := f.1) (m := f.2.1) (by rw [hff, ← he])
        rw [List.length_drop] at hok
        obtain ⟨hm1, hx4, hml, _⟩ := hok
        have hml2 : good + f.2.1 ≤ s.size := by have := HLs.out; omega
        have Hm1 := Lib.hid hm1; clear hm1
        by_cases hem : f.1 = []
        · have hnone : readStep n L bodies good = none := by unfold readStep; rw [hff, if_pos (.inr hem)]
          have hr := readRest_none hnone
          rw [HRR.out.symm] at hr
          subst hr
          have hde : (⟨f.1.toArray⟩ : ByteArray) = ByteArray.empty := by rw [hem]; rfl
          clear HR HRR hnone he hff
          have hcell := hBx.cell
          go_wp2_with fail
          refine Hf.out.mono ?_
          rintro e w6 ⟨rfl, hb6⟩
          have hBx6 := hBx.below hb6 hBx.lt
          have hBr6 := hBr.below hb6 hBr.lt
          have hown6 := own_below Hown.out hb6 (fun q hq => (Hown.out.lt q hq).2)
          have hbb6 := hb.trans (hb6.mono hb.size)
          clear hcell hb6
          have hcellx := hBx6.cell
          have hcellr := hBr6.cell
          have hfreer := hBr6.free
          have hltr := hBr6.lt
          go_wp2_with fail
          have hF := blk_five hBr6 (.int .i64 n) (.int .i64 sz) (.slice A bodies.length cp) (.int .i64 ((good : Nat))) (.bool false)
          have hb2 := below_five hbb6 (Nat.le_refl _) (.int .i64 n) (.int .i64 sz) (.slice A bodies.length cp) (.int .i64 ((good : Nat))) (.bool false)
          have ho2 := own_less (own_five hown6 (own_ne_below hown6 (Nat.lt_succ_self _)) (.int .i64 n) (.int .i64 sz) (.slice A bodies.length cp) (.int .i64 ((good : Nat))) (.bool false)) (Nat.le_succ _)
          clear hcellx hcellr hfreer
          generalize (World.setCell _ _ _) = w9 at hF hb2 ho2 ⊢
          have hcell := hF.cell
          have hfree := hF.free
          refine bodyPost_ret (v := .tuple #[.agg #[.int .i64 n, .int .i64 sz, .slice A bodies.length cp, .int .i64 ((good : Nat)), .bool false], .int .i64 0]) ?_ rfl ?_
          · simp [results, Try.results19, go_sem, hcell, hfree]
          · exact ⟨_, rfl, ho2, hb2⟩
        · have hne : 0 < f.1.length := List.length_pos_iff.2 hem
          have hde : (f.1 == []) = false := by rw [beq_eq_false_iff_ne]; exact hem
          have hde2 : f.1.isEmpty = false := by cases hq : f.1 with | nil => exact absurd hq hem | cons a l => rfl
          have hstep := readStep_ref (n := n) (l := bodies) hff he hem
          obtain ⟨fn, hfn⟩ : ∃ fn, finishL n bodies.length = fn := ⟨_, rfl⟩
          rw [hfn] at hstep
          have hcut2 : (s.extract good (good + f.2.1)).data.toList = (L.drop good).take f.2.1 := by rw [str_cut, HL.out]; simp
          have Hfn := Lib.hid hfn
          clear hff he hfn
          by_cases h2 : fn.1 = (L.drop good).take f.2.1
          · rw [if_pos h2] at hstep
            have hr := readRest_done hstep
            rw [HRR.out.symm] at hr
            have hd2' : ((s.extract good (good + f.2.1)).toList == fn.1) = true := by rw [ByteArray.toList_eq, hcut2, h2]; simp
            subst hr
            clear HRR HR hstep hcut2 h2
            have hcell := hBx.cell
            go_wp2_with fail
            refine Hf.out.mono ?_
            rintro e w6 ⟨rfl, hb6⟩
            have hBx6 := hBx.below hb6 hBx.lt
            have hBr6 := hBr.below hb6 hBr.lt
            have hown6 := own_below Hown.out hb6 (fun q hq => (Hown.out.lt q hq).2)
            have hbb6 := hb.trans (hb6.mono hb.size)
            clear hcell hb6
            have hcell := hBx6.cell
            go_wp2_with fail
            have hfi := refFinish_any n bodies.length w6 (by omega)
            rw [Hfn.out] at hfi
            refine hfi.mono ?_
            clear hfi
            rintro e w7 ⟨rfl, hb7⟩
            have hBx7 := hBx6.below hb7 hBx6.lt
            have hBr7 := hBr6.below hb7 hBr6.lt
            have hown7 := own_below hown6 hb7 (fun q hq => (hown6.lt q hq).2)
            have hbb7 := hbb6.trans (hb7.mono hbb6.size)
            clear hcell hb7 hBx6 hBr6 hown6 hbb6
            have hcell := hBx7.cell
            have hfreeq := hBx7.free
            have hql := hBx7.lt
            have hBy := (hBx7.put 3 (.int .i64 ((good : Int) + (f.2.1 : Int)))).put 4 (.bool true)
            have hBry := (hBr7.far (p := ⟨q, 3, none⟩) (by simp; omega) (.int .i64 ((good : Int) + (f.2.1 : Int)))).far (p := ⟨q, 4, none⟩) (by simp; omega) (.bool true)
            have hneq := own_ne_blk hown7 hBx7 (by decide)
            have howny := own_far (own_far hown7 (a := ⟨q, 3, none⟩) hneq (.int .i64 ((good : Int) + (f.2.1 : Int)))) (a := ⟨q, 4, none⟩) hneq (.bool true)
            have hbby := (hbb7.setCell (p := ⟨q, 3, none⟩) (Nat.le_of_lt hqw) (.int .i64 ((good : Int) + (f.2.1 : Int)))).setCell (p := ⟨q, 4, none⟩) (Nat.le_of_lt hqw) (.bool true)
            have hcellx := hBx7.cell
            have hcellr := hBr7.cell
            have hfreer := hBr7.free
            have hltr := hBr7.lt
            go_wp2_with fail
            have hF := blk_five hBry (.int .i64 n) (.int .i64 sz) (.slice A bodies.length cp) (.int .i64 ((good : Int) + (f.2.1 : Int))) (.bool true)
            have hb2 := below_five hbby (Nat.le_refl _) (.int .i64 n) (.int .i64 sz) (.slice A bodies.length cp) (.int .i64 ((good : Int) + (f.2.1 : Int))) (.bool true)
            have ho2 := own_less (own_five howny (own_ne_below howny (Nat.lt_succ_self _)) (.int .i64 n) (.int .i64 sz) (.slice A bodies.length cp) (.int .i64 ((good : Int) + (f.2.1 : Int))) (.bool true)) (Nat.le_succ _)
            clear hcellx hcellr hfreer hcell hfreeq
            generalize (World.setCell _ _ _) = w9 at hF hb2 ho2 ⊢
            have hcell := hF.cell
            have hfree := hF.free
            refine bodyPost_ret (v := .tuple #[.agg #[.int .i64 n, .int .i64 sz, .slice A bodies.length cp, .int .i64 ((good : Int) + (f.2.1 : Int)), .bool true], .int .i64 0]) ?_ rfl ?_
            · simp [results, Try.results19, go_sem, hcell, hfree]
            · exact ⟨_, rfl, ho2, hb2⟩
          · rw [if_neg h2] at hstep
            have hd2' : ((s.extract good (good + f.2.1)).toList == fn.1) = false := by rw [ByteArray.toList_eq, hcut2, beq_eq_false_iff_ne]; exact fun e => h2 e.symm
            clear hcut2 h2
            have hsz0 : 0 < (⟨f.1.toArray⟩ : ByteArray).size := by rw [size_mk]; exact hne
            have hfb := first_byte f.1 hsz0
            by_cases h1 : f.1.take 1 = [1]
            · have hfb2 : ((((⟨f.1.toArray⟩ : ByteArray)[0]'hsz0).toNat : Int) != 1) = false := hfb.trans (by rw [h1]; rfl)
              clear hfb
              rw [if_pos h1] at hstep
              have hr := readRest_more hstep
              rw [HRR.out.symm] at hr
              have Hr := Lib.hid hr
              clear HRR hstep hr
              have hcell := hBx.cell
              go_wp2_with fail
              refine Hf.out.mono ?_
              rintro e w6 ⟨rfl, hb6⟩
              have hBx6 := hBx.below hb6 hBx.lt
              have hBr6 := hBr.below hb6 hBr.lt
              have hown6 := own_below Hown.out hb6 (fun q hq => (Hown.out.lt q hq).2)
              have hbb6 := hb.trans (hb6.mono hb.size)
              clear hcell hb6
              have hcell := hBx6.cell
              go_wp2_with fail
              have hfi := refFinish_any n bodies.length w6 (by omega)
              rw [Hfn.out] at hfi
              refine hfi.mono ?_
              clear hfi
              rintro e w7 ⟨rfl, hb7⟩
              have hBx7 := hBx6.below hb7 hBx6.lt
              have hBr7 := hBr6.below hb7 hBr6.lt
              have hown7 := own_below hown6 hb7 (fun q hq => (hown6.lt q hq).2)
              have hbb7 := hbb6.trans (hb7.mono hbb6.size)
              clear hcell hb7 hBx6 hBr6 hown6 hbb6
              have hcell := hBx7.cell
              have hfreeq := hBx7.free
              have hHB := Lib.hid hBx7
              have hHr := Lib.hid hBr7
              have hHo := Lib.hid hown7
              have hne3 := own_ne_blk hown7 hBx7 (by decide)
              have hqlt := hBx7.lt
              have hrest : (⟨f.1.toArray⟩ : ByteArray).extract 1 f.1.length = mkS (f.1.drop 1) := by rw [← size_mk f.1]; exact str_from _ _
              have Hrest := Lib.hid hrest
              have hi1 : (1 : Int) ≤ (f.1.length : Int) := by omega
              clear hBx7 hBr7 hown7 hrest
              go_wp2_with fail
              go_region_law (refine step_append_lies _ (by rfl) _ _ _ (by rfl) (w.heap.size + 1) 9 i0 _ 1 16 Try.underlying22 hi0 hz0 hz1 hz2 rfl (by omega) _ _ _ (by rfl) ((hHo.out.alloc _).drew) ⟨w7.heap.size, 0, none⟩ 1 1 [.string ((⟨f.1.toArray⟩ : ByteArray).extract 1 f.1.length)] (by rfl) (by rfl) (World.news_of_block (cs := #[.string ((⟨f.1.toArray⟩ : ByteArray).extract 1 f.1.length)]) (t := 9) (fr := (0, 0)) (heap_alloc_new w7 _)) (by simp [Value.oneCell']) (by omega) (by simp only [maxLen]; omega) (by omega) (by have := hbb7.size; simp <;> omega) (w7.heap.size + 1) (by simp) ?_; intro gg cap w4 hown4 hgrow hat hlt1; have hB4 := Lib.hid (((hHB.out.alloc (.cells #[.string ((⟨f.1.toArray⟩ : ByteArray).extract 1 f.1.length)] 9)).drew).grown hgrow (Ne.symm hne3)); have hc4 := hB4.out.cell; have hf4 := hB4.out.free)
              all_goals
                have hbel4 : Below w.heap.size w7 w4 := (((Below.refl _ _).alloc hbb7.size _).drew).grown hgrow (by have := hbb7.size; simp <;> omega) (fun g hg => Nat.le_of_lt (hHo.out.lt g hg).1)
                have hBr4 := (((hHr.out.alloc (.cells #[.string ((⟨f.1.toArray⟩ : ByteArray).extract 1 f.1.length)] 9)).drew).grown hgrow (by intro e; exact own_ne_below hHo.out (Nat.lt_succ_self _) e.symm))
                have hgg : (Value.slice (some ⟨gg, 0, none⟩) (bodies.length + 1) cap).ownBlock ≠ some q := own_ne_blk hown4 hB4.out (by decide)
                have hbr4 := hbb7.trans hbel4
                clear hcell hfreeq
                go_wp2_with fail
                go_roundw
                case rel =>
                  refine ⟨bodies ++ [f.1.drop 1], good + f.2.1, Value.slice (some ⟨gg, 0, none⟩) (bodies.length + 1) cap, trivial, ?_, ?_, ?_, hml2, ?_, ?_, Hr.out⟩
                  · rw [Int.natCast_add]
                    exact (hB4.out.put 2 _).put 3 _
                  · exact (hBr4.far (by simp; omega) _).far (by simp; omega) _
                  · have := own_far (own_far hown4 (a := ⟨q, 2, none⟩) hgg (Value.slice (some ⟨gg, 0, none⟩) (bodies.length + 1) cap)) (a := ⟨q, 3, none⟩) hgg (.int .i64 ((good : Int) + (f.2.1 : Nat)))
                    rw [Hrest.out] at this
                    rw [List.length_append, strVs, List.map_append, List.map_append]
                    exact this
                  · rw [List.length_append, Hm1.out]; simp; omega
                  · exact (hbr4.setCell (p := ⟨q, 2, none⟩) (Nat.le_of_lt hqw) _).setCell (p := ⟨q, 3, none⟩) (Nat.le_of_lt hqw) _
                case measure =>
                  have hB5 := (hB4.out.put 2 (Value.slice (some ⟨gg, 0, none⟩) (bodies.length + 1) cap)).put 3 (.int .i64 ((good : Int) + (f.2.1 : Nat)))
                  rw [scanLeft_is (good := good + f.2.1) hB5 (by simp), scanLeft_is (good := good) hBx (by simp)]
                  have := Hm1.out
                  omega
            · have hfb2 : ((((⟨f.1.toArray⟩ : ByteArray)[0]'hsz0).toNat : Int) != 1) = true := hfb.trans (by rw [show (f.1.take 1 == [1]) = false from by rw [beq_eq_false_iff_ne]; exact h1]; rfl)
              clear hfb
              rw [if_neg h1] at hstep
              have hr := readRest_none hstep
              rw [HRR.out.symm] at hr
              subst hr
              clear HRR HR hstep h1
              have hcell := hBx.cell
              go_wp2_with fail
              refine Hf.out.mono ?_
              rintro e w6 ⟨rfl, hb6⟩
              have hBx6 := hBx.below hb6 hBx.lt
              have hBr6 := hBr.below hb6 hBr.lt
              have hown6 := own_below Hown.out hb6 (fun q hq => (Hown.out.lt q hq).2)
              have hbb6 := hb.trans (hb6.mono hb.size)
              clear hcell hb6
              have hcell := hBx6.cell
              go_wp2_with fail
              have hfi := refFinish_any n bodies.length w6 (by omega)
              rw [Hfn.out] at hfi
              refine hfi.mono ?_
              clear hfi
              rintro e w7 ⟨rfl, hb7⟩
              have hBx7 := hBx6.below hb7 hBx6.lt
              have hBr7 := hBr6.below hb7 hBr6.lt
              have hown7 := own_below hown6 hb7 (fun q hq => (hown6.lt q hq).2)
              have hbb7 := hbb6.trans (hb7.mono hbb6.size)
              clear hcell hb7 hBx6 hBr6 hown6 hbb6
              have hcellx := hBx7.cell
              have hcellr := hBr7.cell
              have hfreer := hBr7.free
              have hltr := hBr7.lt
              go_wp2_with fail
              have hF := blk_five hBr7 (.int .i64 n) (.int .i64 sz) (.slice A bodies.length cp) (.int .i64 ((good : Nat))) (.bool false)
              have hb2 := below_five hbb7 (Nat.le_refl _) (.int .i64 n) (.int .i64 sz) (.slice A bodies.length cp) (.int .i64 ((good : Nat))) (.bool false)
              have ho2 := own_less (own_five hown7 (own_ne_below hown7 (Nat.lt_succ_self _)) (.int .i64 n) (.int .i64 sz) (.slice A bodies.length cp) (.int .i64 ((good : Nat))) (.bool false)) (Nat.le_succ _)
              clear hcellx hcellr hfreer
              generalize (World.setCell _ _ _) = w9 at hF hb2 ho2 ⊢
              have hcell := hF.cell
              have hfree := hF.free
              refine bodyPost_ret (v := .tuple #[.agg #[.int .i64 n, .int .i64 sz, .slice A bodies.length cp, .int .i64 ((good : Nat)), .bool false], .int .i64 0]) ?_ rfl ?_
              · simp [results, Try.results19, go_sem, hcell, hfree]
              · exact ⟨_, rfl, ho2, hb2⟩
      · have hd : (f.2.2 != 0) = true := by rw [bne_iff_ne]; exact he
        have hnone : readStep n L bodies good = none := by unfold readStep; rw [hff, if_pos (.inl he)]
        have hr := readRest_none hnone
        rw [HRR.out.symm] at hr
        subst hr
        clear HR HRR hnone he hff
        have hcell := hBx.cell
        go_wp2_with fail
        refine Hf.out.mono ?_
        rintro e w6 ⟨rfl, hb6⟩
        have hBx6 := hBx.below hb6 hBx.lt
        have hBr6 := hBr.below hb6 hBr.lt
        have hown6 := own_below Hown.out hb6 (fun q hq => (Hown.out.lt q hq).2)
        have hbb6 := hb.trans (hb6.mono hb.size)
        clear hcell hb6
        have hcellx := hBx6.cell
        have hcellr := hBr6.cell
        have hfreer := hBr6.free
        have hltr := hBr6.lt
        go_wp2_with fail
        have hF := blk_five hBr6 (.int .i64 n) (.int .i64 sz) (.slice A bodies.length cp) (.int .i64 ((good : Nat))) (.bool false)
        have hb2 := below_five hbb6 (Nat.le_refl _) (.int .i64 n) (.int .i64 sz) (.slice A bodies.length cp) (.int .i64 ((good : Nat))) (.bool false)
        have ho2 := own_less (own_five hown6 (own_ne_below hown6 (Nat.lt_succ_self _)) (.int .i64 n) (.int .i64 sz) (.slice A bodies.length cp) (.int .i64 ((good : Nat))) (.bool false)) (Nat.le_succ _)
        clear hcellx hcellr hfreer
        generalize (World.setCell _ _ _) = w9 at hF hb2 ho2 ⊢
        have hcell := hF.cell
        have hfree := hF.free
        refine bodyPost_ret (v := .tuple #[.agg #[.int .i64 n, .int .i64 sz, .slice A bodies.length cp, .int .i64 ((good : Nat)), .bool false], .int .i64 0]) ?_ rfl ?_
        · simp [results, Try.results19, go_sem, hcell, hfree]
        · exact ⟨_, rfl, ho2, hb2⟩
end Go.Proofs.Ytolgjknpifpmbaa

