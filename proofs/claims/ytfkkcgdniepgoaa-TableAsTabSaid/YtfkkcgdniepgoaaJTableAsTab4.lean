/- joined texts. -/
import Derived.Test.YtfkkcgdniepgoaaJTableAsTab3
import Derived.Test.YtfkkcgdniepgoaaJTableAsTab2
/- chapter 13: Find: the places of a version in a table. -/
namespace Go.Proofs.Ytfkkcgdniepgoaa
open Go.RowKit
set_option maxHeartbeats 4000000
set_option maxRecDepth 100000
set_option linter.unusedVariables false

theorem own_lower {w : World} {base base' : Nat} {e : TypeId} {size : Nat} {v : Value} {n : Nat} {xs : List Value} (h : w.ownsRow base e size v n xs) (hb : base' ≤ base) : w.ownsRow base' e size v n xs :=
  ⟨h.1, h.2.imp id fun ⟨g, cap, cur, a, b, c⟩ => ⟨g, cap, cur, a, Nat.le_trans hb b, c⟩⟩

theorem tblFind_any (base T : Nat) (l : List En) (h v : Int) (w : World) (hT : TblIs w base T l) (hn : l.length ≤ 1000000) (hs : SortedE l) (ho : ∀ x ∈ l, 0 ≤ x.2.2) :
    Calls Try.prog 20 #[.pointer (some ⟨T, 0, none⟩), .int .i64 h, .int .i64 v] w fun x w' => ∃ u, x = .returned u ∧ w'.ownsRow w.heap.size 3 1 u (findE l h v).length (intVs (findE l h v)) ∧ Below w.heap.size w w' := by
  obtain ⟨i0, hi0, hz0, hz1, hz2⟩ := info_parts info_int
  have HTt := Lib.hid hT
  have hal := tblAll_any base T l w hT hn
  have Hal := Lib.hid hal
  clear hT hal
  go_enter Try.func20, Try.ntmps20
  go_wp2_with fail
  refine Hal.out.mono ?_
  rintro x w1 ⟨u1, rfl, hown1, hb1⟩
  obtain ⟨A, c, rfl, hnc⟩ := own_slice hown1
  have Hr := Lib.hid (SlR.own hown1)
  have hfr := tblFrom_any base T l (h, v, 0) w1 (HTt.out.below hb1 (Nat.le_refl _)) hn hs
  unfold enA at hfr
  dsimp only at hfr
  have Hfr := Lib.hid hfr
  have HB1 := Lib.hid hb1
  clear hown1 hfr hb1
  go_wp2_with fail
  refine Hfr.out.mono ?_
  rintro x w2 ⟨p, rfl, hp, hpl, hb2⟩
  have Hp := Lib.hid (show PlaceE l (h, v, 0) p from hp)
  have HB2 := Lib.hid (HB1.out.trans (hb2.mono HB1.out.size))
  have Hr2 := Lib.hid (Hr.out.below hb2)
  have hs2 := hb2.size
  have hs1 := HB1.out.size
  clear hp hb2 HTt Hfr Hal Hr
  go_wp2_with fail
  go_loopw [7, 9] (fun o i wr => ∃ (k : Nat) (u : Value), u = o ∧ p ≤ k ∧ k ≤ l.length + 8 ∧ i = .int .i64 (k : Int) ∧ wr.ownsRow w2.heap.size 3 1 u (findE (l.take k) h v).length (intVs (findE (l.take k) h v)) ∧ Below w2.heap.size w2 wr) (fun _ i _ => l.length - (intOf i).toNat)
  case atStart =>
    have h0 := find_at hs ho h v Hp.out
    exact ⟨p, _, rfl, Nat.le_refl _, hpl, rfl, by rw [h0]; exact World.ownsRow_nil _ _ _ _, Below.refl _ _⟩
  case round =>
    obtain ⟨k, u, rfl, hk, hk2, rfl, hown, hb⟩ := hrel
    have hfl : (findE (l.take k) h v).length ≤ l.length := Nat.le_trans (find_le _ _ _) (by rw [List.length_take]; omega)
    by_cases hlt : k < l.length
    · obtain ⟨ad, ⟨p0, p1, p2⟩, rfl, hadB, hpq, hat⟩ := Hr2.out.en (k := k) (by omega)
      have hat1 := hat.below hb (by rw [add_block]; omega)
      obtain ⟨hc0, hc1, hc2⟩ := hat1
      dsimp only at hc0 hc1 hc2
      have hsn := find_snoc l h v k _ hpq
      dsimp only at hsn
      have hend := find_end hs h v Hp.out hk hpq
      dsimp only at hend
      have Hend := Lib.hid hend
      have Hsn := Lib.hid hsn; have Hown := Lib.hid hown; have Hb := Lib.hid hb
      have hbs := hb.size
      generalize findE (l.take k) h v = F at hfl Hown Hsn Hend
      have hlt' : (k : Int) < l.length := by omega
      clear hsn hown hb hat hpq hend
      by_cases h0 : p0 = h
      · by_cases h1 : p1 = v
        · have Hsn := Lib.hid (Hsn.out.trans (by rw [if_pos ⟨h0, h1⟩]))
          subst h0; subst h1
          go_wp2_with (at_builtin; refine wpList_append_lies _ rfl (.tmp 41) (.tmp 47) _ rfl w2.heap.size 3 i0 _ 1 8 Try.underlying45 hi0 hz0 hz1 hz2 rfl (by omega) u F.length (intVs F) rfl (Hown.out.alloc _) ⟨wr.heap.size, 0, none⟩ 1 1 [.int .i64 p2] rfl rfl (World.news_of_block (cs := #[.int .i64 p2]) (by have := heap_alloc_new wr (.cells #[.int .i64 p2] 3); simpa using this)) (by simp [Value.oneCell']) (by omega) (by simp only [maxLen]; omega) (by omega) (by simp <;> omega) (wr.heap.size + 1) (by simp) ?_; intro g cp w3 hown3 hgrow hat3 hlt3)
          have hb3 : Below w2.heap.size w2 w3 := (Hb.out.alloc hbs _).grown hgrow (by simp; omega) (fun q hq => (Hown.out.lt q hq).1)
          go_roundw
          case rel =>
            refine ⟨k + 1, _, rfl, by omega, by omega, by go_num, ?_, hb3⟩
            rw [Hsn.out]
            simpa [intVs] using hown3
          case measure => simp [intOf]; omega
        · have hF := Hend.out (fun q => h1 q.2)
          rw [hF] at Hown
          subst h0
          have h1' : (p1 == v) = false := by simpa using h1
          clear hF Hend Hsn
          go_wp2_with fail
          go_ret
          exact ⟨u, rfl, own_lower Hown.out (by omega), HB2.out.trans (Hb.out.mono (by omega))⟩
      · have hF := Hend.out (fun q => h0 q.1)
        rw [hF] at Hown
        have h0' : (p0 == h) = false := by simpa using h0
        clear hF Hend Hsn
        go_wp2_with fail
        go_ret
        exact ⟨u, rfl, own_lower Hown.out (by omega), HB2.out.trans (Hb.out.mono (by omega))⟩
    · have hd : decide ((k : Int) < (l.length : Int)) = false := by rw [decide_eq_false_iff_not]; omega
      have ht : l.take k = l := List.take_of_length_le (by omega)
      rw [ht] at hown
      clear ht hfl
      have Hown := Lib.hid hown
      clear hown
      go_wp2_with fail
      go_ret
      exact ⟨u, rfl, own_lower Hown.out (by omega), HB2.out.trans (hb.mono (by omega))⟩
end Go.Proofs.Ytfkkcgdniepgoaa

/- chapter 13: Range: the entries of a hash's versions in a table. -/
namespace Go.Proofs.Ytfkkcgdniepgoaa
open Go.RowKit
set_option maxHeartbeats 4000000
set_option maxRecDepth 100000
set_option linter.unusedVariables false

theorem tblRange_any (base T : Nat) (l : List En) (h v b : Int) (w : World) (hT : TblIs w base T l) (hn : l.length ≤ 1000000) (hs : SortedE l) (ho : ∀ x ∈ l, 0 ≤ x.2.2) :
    Calls Try.prog 17 #[.pointer (some ⟨T, 0, none⟩), .int .i64 h, .int .i64 v, .int .i64 b] w fun x w' => ∃ u, x = .returned u ∧ w'.ownsRow w.heap.size 33 3 u (rangeE l h v b).length (enVs (rangeE l h v b)) ∧ Below w.heap.size w w' := by
  obtain ⟨i0, hi0, hz0, hz1, hz2⟩ := info_parts info_en
  have HTt := Lib.hid hT
  have hal := tblAll_any base T l w hT hn
  have Hal := Lib.hid hal
  clear hT hal
  go_enter Try.func17, Try.ntmps17
  go_wp2_with fail
  refine Hal.out.mono ?_
  rintro x w1 ⟨u1, rfl, hown1, hb1⟩
  obtain ⟨A, c, rfl, hnc⟩ := own_slice hown1
  have Hr := Lib.hid (SlR.own hown1)
  have hfr := tblFrom_any base T l (h, v, 0) w1 (HTt.out.below hb1 (Nat.le_refl _)) hn hs
  unfold enA at hfr
  dsimp only at hfr
  have Hfr := Lib.hid hfr
  have HB1 := Lib.hid hb1
  clear hown1 hfr hb1
  go_wp2_with fail
  refine Hfr.out.mono ?_
  rintro x w2 ⟨p, rfl, hp, hpl, hb2⟩
  have Hp := Lib.hid (show PlaceE l (h, v, 0) p from hp)
  have HB2 := Lib.hid (HB1.out.trans (hb2.mono HB1.out.size))
  have Hr2 := Lib.hid (Hr.out.below hb2)
  have hs2 := hb2.size
  have hs1 := HB1.out.size
  clear hp hb2 HTt Hfr Hal Hr
  go_wp2_with fail
  go_loopw [9, 11] (fun o i wr => ∃ (k : Nat) (u : Value), u = o ∧ p ≤ k ∧ k ≤ l.length + 8 ∧ i = .int .i64 (k : Int) ∧ wr.ownsRow w2.heap.size 33 3 u (rangeE (l.take k) h v b).length (enVs (rangeE (l.take k) h v b)) ∧ Below w2.heap.size w2 wr) (fun _ i _ => l.length - (intOf i).toNat)
  case atStart =>
    have h0 := range_at hs ho h v b Hp.out
    exact ⟨p, _, rfl, Nat.le_refl _, hpl, rfl, by rw [h0]; exact World.ownsRow_nil _ _ _ _, Below.refl _ _⟩
  case round =>
    obtain ⟨k, u, rfl, hk, hk2, rfl, hown, hb⟩ := hrel
    have hfl : (rangeE (l.take k) h v b).length ≤ l.length := Nat.le_trans (range_le _ _ _ _) (by rw [List.length_take]; omega)
    by_cases hlt : k < l.length
    · obtain ⟨ad, ⟨p0, p1, p2⟩, rfl, hadB, hpq, hat⟩ := Hr2.out.en (k := k) (by omega)
      have hat1 := hat.below hb (by rw [add_block]; omega)
      obtain ⟨hc0, hc1, hc2⟩ := hat1
      dsimp only at hc0 hc1 hc2
      have hsn := range_snoc l h v b k _ hpq
      dsimp only at hsn
      have hend := range_end hs h v b Hp.out hk hpq
      dsimp only at hend
      have Hend := Lib.hid hend
      have Hsn := Lib.hid hsn; have Hown := Lib.hid hown; have Hb := Lib.hid hb
      have hbs := hb.size
      generalize rangeE (l.take k) h v b = F at hfl Hown Hsn Hend
      have hlt' : (k : Int) < l.length := by omega
      clear hsn hown hb hat hend
      by_cases h0 : p0 = h
      · have hin := range_in hs h v Hp.out hk hpq h0
        dsimp only at hin
        by_cases h1 : p1 < b
        · have Hsn := Lib.hid (Hsn.out.trans (by rw [if_pos ⟨h0, hin, h1⟩]))
          subst h0
          go_wp2_with (at_builtin; refine wpList_append_lies _ rfl (.tmp 43) (.tmp 48) _ rfl w2.heap.size 33 i0 _ 3 24 Try.underlying22 hi0 hz0 hz1 hz2 rfl (by omega) u F.length (enVs F) rfl (Hown.out.alloc _) ⟨wr.heap.size, 0, none⟩ 1 1 [.int .i64 p0, .int .i64 p1, .int .i64 p2] rfl rfl (World.news_of_block (cs := #[.int .i64 p0, .int .i64 p1, .int .i64 p2]) (by have := heap_alloc_new wr (.cells #[.int .i64 p0, .int .i64 p1, .int .i64 p2] 33); simpa using this)) (by simp [Value.oneCell']) (by omega) (by simp only [maxLen]; omega) (by omega) (by simp <;> omega) (wr.heap.size + 1) (by simp) ?_; intro g cp w3 hown3 hgrow hat3 hlt3)
          have hb3 : Below w2.heap.size w2 w3 := (Hb.out.alloc hbs _).grown hgrow (by simp; omega) (fun q hq => (Hown.out.lt q hq).1)
          go_roundw
          case rel =>
            refine ⟨k + 1, _, rfl, by omega, by omega, by go_num, ?_, hb3⟩
            rw [Hsn.out, enVs_append, List.length_append]
            exact hown3
          case measure => simp [intOf]; omega
        · have hF := Hend.out (fun q => h1 q.2)
          rw [hF] at Hown
          subst h0
          have h1' : decide (p1 < b) = false := decide_eq_false h1
          clear hF Hend Hsn
          go_wp2_with fail
          go_ret
          exact ⟨u, rfl, own_lower Hown.out (by omega), HB2.out.trans (Hb.out.mono (by omega))⟩
      · have hF := Hend.out (fun q => h0 q.1)
        rw [hF] at Hown
        have h0' : (p0 == h) = false := by simpa using h0
        clear hF Hend Hsn
        go_wp2_with fail
        go_ret
        exact ⟨u, rfl, own_lower Hown.out (by omega), HB2.out.trans (Hb.out.mono (by omega))⟩
    · have hd : decide ((k : Int) < (l.length : Int)) = false := by rw [decide_eq_false_iff_not]; omega
      have ht : l.take k = l := List.take_of_length_le (by omega)
      rw [ht] at hown
      clear ht hfl
      have Hown := Lib.hid hown
      clear hown
      go_wp2_with fail
      go_ret
      exact ⟨u, rfl, own_lower Hown.out (by omega), HB2.out.trans (hb.mono (by omega))⟩
end Go.Proofs.Ytfkkcgdniepgoaa

