/- package chunk: begin, walked. -/
import Derived.Test.YtolgjknpifpmbaaChunk
import Derived.Test.YtolgjknpifpmbaaFrameRead
namespace Go.Proofs.Ytolgjknpifpmbaa
open Go.RowKit
set_option maxHeartbeats 400000
set_option maxRecDepth 100000
set_option linter.unusedVariables false

theorem below_five {B g : Nat} {a w : World} (h : Below B a w) (hg : B ≤ g) (v0 v1 v2 v3 v4 : Value) :
    Below B a (((((w.setCell ⟨g, 0, none⟩ v0).setCell ⟨g, 1, none⟩ v1).setCell ⟨g, 2, none⟩ v2).setCell ⟨g, 3, none⟩ v3).setCell ⟨g, 4, none⟩ v4) :=
  ((((h.setCell (p := ⟨g, 0, none⟩) hg v0).setCell (p := ⟨g, 1, none⟩) hg v1).setCell (p := ⟨g, 2, none⟩) hg v2).setCell (p := ⟨g, 3, none⟩) hg v3).setCell (p := ⟨g, 4, none⟩) hg v4

/-- what begin tells, as a value -/
def beginV : Option (Int × Int × Nat) → Value
  | none => .tuple #[.agg #[.int .i64 0, .int .i64 0, .slice none 0 0, .int .i64 0, .bool false], .bool false]
  | some (n, s, m) => .tuple #[.agg #[.int .i64 n, .int .i64 s, .slice none 0 0, .int .i64 (m : Nat), .bool false], .bool true]

theorem begin_any (s : ByteArray) (w : World) (hs : s.size ≤ 1000000000) :
    Calls Try.prog 26 #[.string s] w fun e w' => e = .returned (beginV (beginL s.data.toList)) ∧ Below w.heap.size w w' := by
  obtain ⟨f, hf⟩ : ∃ f, firstL s.data.toList = f := ⟨_, rfl⟩
  have hfi := first_any s (w.alloc (.cells #[.int .i64 0, .int .i64 0, .slice none 0 0, .int .i64 0, .bool false] 31)) hs
  rw [hf] at hfi
  have hbv : beginL s.data.toList = if f.2.2 ≠ 0 ∨ f.1.length ≠ 21 then none else
      if (startL (i64L ((f.1.drop 5).take 8)) (i64L ((f.1.drop 13).take 8))).2 ≠ 0 ∨ (startL (i64L ((f.1.drop 5).take 8)) (i64L ((f.1.drop 13).take 8))).1 ≠ s.data.toList.take f.2.1 then none else
      some (i64L ((f.1.drop 5).take 8), i64L ((f.1.drop 13).take 8), f.2.1) := by unfold beginL; rw [hf]
  have Hfi := Lib.hid hfi; clear hfi
  by_cases he : f.2.2 = 0
  · have hd : (f.2.2 != 0) = false := by rw [he]; rfl
    have hok := first_ok (b := s.data.toList) (x := f.1) (m := f.2.1) (by rw [hf, ← he])
    rw [← size_list] at hok
    by_cases hl : f.1.length = 21
    · rw [if_neg (by intro h; rcases h with h | h; exact h he; exact h hl)] at hbv
      have hdl : ((f.1.length : Int) != 21) = false := by rw [hl]; rfl
      have hl2 : 5 ≤ f.1.length := by omega
      have hm1 : f.2.1 ≤ s.size := hok.2.2.1
      obtain ⟨n1, hn1⟩ : ∃ n1, i64L ((f.1.drop 5).take 8) = n1 := ⟨_, rfl⟩
      obtain ⟨n2, hn2⟩ : ∃ n2, i64L ((f.1.drop 13).take 8) = n2 := ⟨_, rfl⟩
      rw [hn1, hn2] at hbv
      have hbd : (⟨f.1.toArray⟩ : ByteArray).extract 5 f.1.length = ⟨(f.1.drop 5).toArray⟩ := by rw [← size_mk f.1]; exact str_from _ _
      have hd5 : (f.1.drop 5).length = 16 := by rw [List.length_drop]; omega
      have ht1 : inTake 8 (f.1.drop 5) 0 = ((f.1.drop 5).take 8, f.1.drop 13, 0) := by rw [inTake_ok (by omega), List.drop_drop]
      have ht2 : inTake 8 (f.1.drop 13) 0 = ((f.1.drop 13).take 8, [], 0) := by
        rw [inTake_ok (by rw [List.length_drop]; omega), List.drop_drop, show List.drop (13 + 8) f.1 = [] from List.drop_of_length_le (by omega)]
      have Hbd := Lib.hid hbd; have Hd5 := Lib.hid hd5; have Ht1 := Lib.hid ht1; have Ht2 := Lib.hid ht2; have Hbv := Lib.hid hbv; have Hn1 := Lib.hid hn1; have Hn2 := Lib.hid hn2; have Hl := Lib.hid hl
      have hl3 : f.1.length ≤ 21 := by omega
      clear hbd hd5 ht1 ht2 hbv hn1 hn2 he hok hf hl
      go_enter Try.func26, Try.ntmps26
      go_wp2_with fail
      refine Hfi.out.mono ?_
      rintro e w1 ⟨rfl, hb1⟩
      have hB := (BlkIs.new w 31 #[Value.int .i64 0, .int .i64 0, .slice none 0 0, .int .i64 0, .bool false]).below hb1 (by simp)
      have HB := Lib.hid hB; clear hB
      have hbw : Below w.heap.size w w1 := ((Below.refl _ _).alloc (Nat.le_refl _) _).trans (hb1.mono (by simp))
      clear hb1
      go_wp2_with fail
      have h16 := twoL_length 0 0
      refine (two_any 0 0 _).mono ?_
      rintro e w2 ⟨rfl, hb2⟩
      generalize twoL 0 0 = tz at h16 ⊢
      have h16' : (tz.length : Int) = 16 := by omega
      have HB2 := Lib.hid (HB.out.below hb2 HB.out.lt)
      have hbw2 := hbw.trans (hb2.mono hbw.size)
      clear hb2 hbw h16
      go_wp2_with fail
      rw [Hbd.out]
      refine (newIn_any _ _ (by rw [size_mk, Hd5.out]; omega)).mono ?_
      rintro e w3 ⟨gi, rfl, hi3, hb3⟩
      rw [show (ByteArray.mk (f.1.drop 5).toArray).data.toList = f.1.drop 5 from rfl] at hi3
      have HB3 := Lib.hid (HB2.out.below hb3 HB2.out.lt)
      have hbw3 := hbw2.trans (hb3.mono hbw2.size)
      have Hi3 := Lib.hid hi3
      clear hb3 hi3
      go_wp2_with fail
      have h4 := inI64_any gi w2.heap.size (f.1.drop 5) 0 w3 Hi3.out (by rw [Hd5.out]; omega)
      rw [Ht1.out, Hn1.out] at h4
      refine h4.mono ?_
      rintro e w4 ⟨rfl, hi4, hb4⟩
      have HB4 := Lib.hid (HB3.out.below hb4 HB2.out.lt)
      have hbw4 := hbw3.trans (hb4.mono hbw2.size)
      have Hi4 := Lib.hid hi4
      clear hb4 hi4 h4
      go_wp2_with fail
      have h5 := inI64_any gi w2.heap.size (f.1.drop 13) 0 w4 Hi4.out (by rw [List.length_drop]; omega)
      rw [Ht2.out, Hn2.out] at h5
      refine h5.mono ?_
      rintro e w5 ⟨rfl, hi5, hb5⟩
      have hbw5 := hbw4.trans (hb5.mono hbw2.size)
      have hB5 := HB4.out.below hb5 HB2.out.lt
      have HB5 := Lib.hid hB5
      clear hb5 hi5 h5 hB5
      go_wp2_with fail
      obtain ⟨st, hst⟩ : ∃ st, startL n1 n2 = st := ⟨_, rfl⟩
      have hs6 := start_any n1 n2 (w5.alloc (.cells #[.int .i64 n1, .int .i64 n2, .slice none 0 0, .int .i64 (f.2.1 : Nat), .bool false] 31))
      rw [hst] at hs6 Hbv
      clear hst
      refine hs6.mono ?_
      rintro e w6 ⟨rfl, hb6⟩
      clear hs6
      have hbw6 : Below w.heap.size w w6 := (hbw5.alloc hbw5.size _).trans (hb6.mono (by have := hbw5.size; simp <;> omega))
      have hB6 := (HB5.out.alloc (.cells #[.int .i64 n1, .int .i64 n2, .slice none 0 0, .int .i64 (f.2.1 : Nat), .bool false] 31)).below hb6 (by have := HB5.out.lt; simp <;> omega)
      have hX6 := (BlkIs.new w5 31 #[.int .i64 n1, .int .i64 n2, .slice none 0 0, .int .i64 (f.2.1 : Nat), .bool false]).below hb6 (by simp)
      have hcell := hB6.cell
      have hfree := hB6.free
      have hcelx := hX6.cell
      have hgt : w.heap.size < w5.heap.size := by have := HB5.out.lt; exact this
      have HB6 := Lib.hid hB6; have HX6 := Lib.hid hX6
      clear hb6 hB6 hX6
      have hm2 : (f.2.1 : Int) ≤ (s.size : Int) := by omega
      have hcut : (s.extract 0 f.2.1).data.toList = s.data.toList.take f.2.1 := by rw [str_to]
      have Hcut := Lib.hid hcut; clear hcut
      by_cases h1 : st.2 = 0
      · have hd1 : (st.2 != 0) = false := by rw [h1]; rfl
        by_cases h2 : st.1 = s.data.toList.take f.2.1
        · rw [if_neg (by intro h; rcases h with h | h; exact h h1; exact h h2)] at Hbv
          have hd2 : (st.1 == (s.extract 0 f.2.1).toList) = true := by rw [ByteArray.toList_eq, Hcut.out, h2]; simp
          clear h1 h2
          go_wp2_with fail
          refine bodyPost_ret (v := beginV (some (n1, n2, f.2.1))) ?_ rfl ?_
          · simp [results, Try.results26, go_sem, hcell, hfree]
            rfl
          · rw [Hbv.out]
            exact ⟨rfl, below_five hbw6 (Nat.le_refl _) _ _ _ _ _⟩
        · rw [if_pos (.inr h2)] at Hbv
          have hd2 : (st.1 == (s.extract 0 f.2.1).toList) = false := by rw [ByteArray.toList_eq, Hcut.out]; simpa using h2
          clear h1 h2
          go_wp2_with fail
          refine bodyPost_ret (v := beginV none) ?_ rfl ?_
          · simp [results, Try.results26, go_sem, hcell, hfree]
            rfl
          · rw [Hbv.out]
            exact ⟨rfl, below_five hbw6 (Nat.le_refl _) _ _ _ _ _⟩
      · rw [if_pos (.inl h1)] at Hbv
        have hd1 : (st.2 != 0) = true := by rw [bne_iff_ne]; exact h1
        clear h1
        go_wp2_with fail
        refine bodyPost_ret (v := beginV none) ?_ rfl ?_
        · simp [results, Try.results26, go_sem, hcell, hfree]
          rfl
        · rw [Hbv.out]
          exact ⟨rfl, below_five hbw6 (Nat.le_refl _) _ _ _ _ _⟩
    · rw [if_pos (.inr hl)] at hbv
      have hdl : ((f.1.length : Int) != 21) = true := by rw [bne_iff_ne]; omega
      have Hbv := Lib.hid hbv
      clear hbv he hok hf hl
      go_enter Try.func26, Try.ntmps26
      go_wp2_with fail
      refine Hfi.out.mono ?_
      rintro e w1 ⟨rfl, hb1⟩
      have hB := (BlkIs.new w 31 #[Value.int .i64 0, .int .i64 0, .slice none 0 0, .int .i64 0, .bool false]).below hb1 (by simp)
      have HB := Lib.hid hB; clear hB
      have hbw : Below w.heap.size w w1 := ((Below.refl _ _).alloc (Nat.le_refl _) _).trans (hb1.mono (by simp))
      clear hb1
      go_wp2_with fail
      have h16 := twoL_length 0 0
      refine (two_any 0 0 _).mono ?_
      rintro e w2 ⟨rfl, hb2⟩
      generalize twoL 0 0 = tz at h16 ⊢
      have h16' : (tz.length : Int) = 16 := by omega
      have hB2 := HB.out.below hb2 HB.out.lt
      have hcell := hB2.cell
      have hfree := hB2.free
      have HB2 := Lib.hid hB2; clear hB2 h16
      go_wp2_with fail
      refine bodyPost_ret (v := beginV none) ?_ rfl ?_
      · simp [results, Try.results26, go_sem, hcell, hfree]
        rfl
      · rw [Hbv.out]
        refine ⟨rfl, ?_⟩
        exact below_five (hbw.trans (hb2.mono hbw.size)) (Nat.le_refl _) _ _ _ _ _
  · rw [if_pos (.inl he)] at hbv
    have hd : (f.2.2 != 0) = true := by rw [bne_iff_ne]; exact he
    have Hbv := Lib.hid hbv
    clear hbv he hf
    go_enter Try.func26, Try.ntmps26
    go_wp2_with fail
    refine Hfi.out.mono ?_
    rintro e w1 ⟨rfl, hb1⟩
    have hB := (BlkIs.new w 31 #[Value.int .i64 0, .int .i64 0, .slice none 0 0, .int .i64 0, .bool false]).below hb1 (by simp)
    have hcell := hB.cell
    have hfree := hB.free
    have HB := Lib.hid hB; clear hB
    go_wp2_with fail
    refine bodyPost_ret (v := beginV none) ?_ rfl ?_
    · simp [results, Try.results26, go_sem, hcell, hfree]
      rfl
    · rw [Hbv.out]
      refine ⟨rfl, ?_⟩
      exact below_five (((Below.refl _ _).alloc (Nat.le_refl _) _).trans (hb1.mono (by simp))) (Nat.le_refl _) _ _ _ _ _

theorem beginL_le {s : ByteArray} {n sz : Int} {m : Nat} (h : beginL s.data.toList = some (n, sz, m)) : m ≤ s.size := by
  unfold beginL at h
  split at h
  · cases h
  rename_i h1
  split at h
  · cases h
  injection h with h
  injection h with _ h
  injection h with _ h
  have hz : (firstL s.data.toList).2.2 = 0 := Classical.byContradiction fun e => h1 (.inl e)
  have ho := first_ok (b := s.data.toList) (x := (firstL s.data.toList).1) (m := (firstL s.data.toList).2.1) (by rw [← hz])
  rw [size_list, ← h]
  exact ho.2.2.1
end Go.Proofs.Ytolgjknpifpmbaa
