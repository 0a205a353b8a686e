/- chapter 12: the document's Less, Find, Range, Cut, Last (printed by mkref12.py). -/
import Derived.Test.YtgaeoglhammjiaaTabFind
import Derived.Test.YtgaeoglhammjiaaTabBetween
import Derived.Test.YtgaeoglhammjiaaTabBack
import Derived.IntWalk
namespace Go.Proofs.Ytgaeoglhammjiaa
open Go.RowKit
set_option maxHeartbeats 2000000
set_option maxRecDepth 100000
set_option linter.unusedVariables false

theorem info_ren : (Try.prog.info? 58).map (fun i => (i.zero, i.size, i.bytes)) = some (some (.agg #[.int .i64 0, .int .i64 0, .int .i64 0]), 3, 24) := by kernel_rfl

theorem refLess_any (a b : En) (w : World) : Calls Try.prog 39 #[enA a, enA b] w fun x w' => x = .returned (.bool (ltE a b)) ∧ Below w.heap.size w w' := by
  obtain ⟨a0, a1, a2⟩ := a; obtain ⟨b0, b1, b2⟩ := b
  have hb0 : Below w.heap.size w ((w.alloc (.cells #[.int .i64 a0, .int .i64 a1, .int .i64 a2] 58)).alloc (.cells #[.int .i64 b0, .int .i64 b1, .int .i64 b2] 58)) := ((Below.refl _ _).alloc (Nat.le_refl _) _).alloc (by simp) _
  have Hb := Lib.hid hb0; clear hb0
  unfold enA ltE
  dsimp only
  by_cases h0 : a0 = b0
  · have d0 : (a0 != b0) = false := by simpa using h0
    by_cases h1 : a1 = b1
    · have d1 : (a1 != b1) = false := by simpa using h1
      have hv : decide (a0 < b0 ∨ a0 = b0 ∧ (a1 < b1 ∨ a1 = b1 ∧ a2 < b2)) = decide (a2 < b2) := by rw [decide_eq_decide]; omega
      rw [hv]
      clear h0 h1 hv
      go_enter Try.func39, Try.ntmps39
      go_wp2_with fail
      go_ret
      exact ⟨rfl, Hb.out⟩
    · have d1 : (a1 != b1) = true := by simpa using h1
      have hv : decide (a0 < b0 ∨ a0 = b0 ∧ (a1 < b1 ∨ a1 = b1 ∧ a2 < b2)) = decide (a1 < b1) := by rw [decide_eq_decide]; omega
      rw [hv]
      clear h0 h1 hv
      go_enter Try.func39, Try.ntmps39
      go_wp2_with fail
      go_ret
      exact ⟨rfl, Hb.out⟩
  · have d0 : (a0 != b0) = true := by simpa using h0
    have hv : decide (a0 < b0 ∨ a0 = b0 ∧ (a1 < b1 ∨ a1 = b1 ∧ a2 < b2)) = decide (a0 < b0) := by rw [decide_eq_decide]; omega
    rw [hv]
    clear h0 hv
    go_enter Try.func39, Try.ntmps39
    go_wp2_with fail
    go_ret
    exact ⟨rfl, Hb.out⟩

theorem cut_snoc (l : List En) (p : Int) (k : Nat) (e : En) (he : l[k]? = some e) : cutE (l.take (k + 1)) p = cutE (l.take k) p ++ if e.2.2 < p then [e] else [] := by
  unfold cutE
  rw [filter_snoc _ l k e he]
  by_cases h : e.2.2 < p <;> simp [h]

theorem refFind_any (A : Option Addr) (n c B : Nat) (l : List En) (h v : Int) (w : World) (hr : SlR w B 3 A n (enVs l)) (hB : B ≤ w.heap.size) (hn : n ≤ 1000000) :
    Calls Try.prog 29 #[.slice A n c, .int .i64 h, .int .i64 v] w fun x w' => ∃ u, x = .returned u ∧ w'.ownsRow w.heap.size 3 1 u (findE l h v).length (intVs (findE l h v)) ∧ Below w.heap.size w w' := by
  obtain ⟨i0, hi0, hz0, hz1, hz2⟩ := info_parts info_int
  have hl : l.length = n := by have := hr.len; rw [enVs_length] at this; omega
  have Hr := Lib.hid hr; have Hl := Lib.hid hl
  clear hr hl
  go_enter Try.func29, Try.ntmps29
  go_wp2_with fail
  go_loopw [7, 8] (fun o i wr => ∃ (k : Nat) (u : Value), u = o ∧ k ≤ n ∧ i = .int .i64 (k : Int) ∧ wr.ownsRow w.heap.size 3 1 u (findE (l.take k) h v).length (intVs (findE (l.take k) h v)) ∧ Below w.heap.size w wr) (fun _ i _ => n - (intOf i).toNat)
  case atStart => exact ⟨0, _, rfl, Nat.zero_le _, rfl, World.ownsRow_nil _ _ _ _, Below.refl _ _⟩
  case round =>
    obtain ⟨k, u, rfl, hk, rfl, hown, hb⟩ := hrel
    have hfl : (findE (l.take k) h v).length ≤ k := Nat.le_trans (find_le _ _ _) (by rw [List.length_take]; omega)
    by_cases hlt : k < n
    · obtain ⟨ad, ⟨p0, p1, p2⟩, rfl, hadB, hpq, hat⟩ := Hr.out.en (k := k) (by omega)
      have hat1 := hat.below hb (by rw [add_block]; omega)
      obtain ⟨hc0, hc1, hc2⟩ := hat1
      dsimp only at hc0 hc1 hc2
      have hsn := find_snoc l h v k _ hpq
      dsimp only at hsn
      have Hsn := Lib.hid hsn; have Hown := Lib.hid hown; have Hb := Lib.hid hb
      have hbs := hb.size
      generalize findE (l.take k) h v = F at hfl Hown Hsn
      have hlt' : (k : Int) < n := by omega
      clear hsn hown hb hat hpq
      by_cases h0 : p0 = h
      · have d0 : (p0 == h) = true := by simpa using h0
        by_cases h1 : p1 = v
        · have d1 : (p1 == v) = true := by simpa using h1
          have Hsn := Lib.hid (Hsn.out.trans (by rw [if_pos ⟨h0, h1⟩]))
          clear h0 h1
          go_wp2_with (at_builtin; refine wpList_append_lies _ rfl (.tmp 31) (.tmp 37) _ rfl w.heap.size 3 i0 _ 1 8 Try.underlying23 hi0 hz0 hz1 hz2 rfl (by omega) u F.length (intVs F) rfl (Hown.out.alloc _) ⟨wr.heap.size, 0, none⟩ 1 1 ([.int .i64 p2]) rfl rfl (World.news_of_block (cs := #[.int .i64 p2]) (heap_alloc_new wr _)) (by simp [enC, Value.oneCell']) (by omega) (by simp only [maxLen]; omega) (by omega) (by simp <;> omega) (wr.heap.size + 1) (by simp) ?_; intro g cp w2 hown2 hgrow hat2 hlt2)
          have hb2 : Below w.heap.size w w2 := (Hb.out.alloc hbs _).grown hgrow (by simp; omega) (fun q hq => (Hown.out.lt q hq).1)
          go_roundw
          case rel =>
            refine ⟨k + 1, _, rfl, by omega, by go_num, ?_, hb2⟩
            rw [Hsn.out]
            simpa [intVs, enVs] using hown2
          case measure => simp [intOf]; omega
        · have d1 : (p1 == v) = false := by simpa using h1
          have Hsn := Lib.hid (Hsn.out.trans (by rw [if_neg (fun q => h1 q.2)]))
          clear h0 h1
          go_wp2_with fail
          go_roundw
          case rel =>
            refine ⟨k + 1, u, rfl, by omega, by go_num, ?_, Hb.out⟩
            rw [Hsn.out, List.append_nil]
            exact Hown.out
          case measure => simp [intOf]; omega
      · have d0 : (p0 == h) = false := by simpa using h0
        have Hsn := Lib.hid (Hsn.out.trans (by rw [if_neg (fun q => h0 q.1)]))
        clear h0
        go_wp2_with fail
        go_roundw
        case rel =>
          refine ⟨k + 1, u, rfl, by omega, by go_num, ?_, Hb.out⟩
          rw [Hsn.out, List.append_nil]
          exact Hown.out
        case measure => simp [intOf]; omega
    · obtain rfl : k = n := by omega
      have hd : decide (k < k) = false := by simp
      have ht : l.take k = l := List.take_of_length_le (Nat.le_of_eq Hl.out)
      rw [ht] at hown
      clear ht hfl
      have Hown := Lib.hid hown
      clear hown
      go_wp2_with fail
      go_ret
      exact ⟨u, rfl, Hown.out, hb⟩

theorem refRange_any (A : Option Addr) (n c B : Nat) (l : List En) (h a b : Int) (w : World) (hr : SlR w B 3 A n (enVs l)) (hB : B ≤ w.heap.size) (hn : n ≤ 1000000) :
    Calls Try.prog 27 #[.slice A n c, .int .i64 h, .int .i64 a, .int .i64 b] w fun x w' => ∃ u, x = .returned u ∧ w'.ownsRow w.heap.size 58 3 u (rangeE l h a b).length (enVs (rangeE l h a b)) ∧ Below w.heap.size w w' := by
  obtain ⟨i0, hi0, hz0, hz1, hz2⟩ := info_parts info_ren
  have hl : l.length = n := by have := hr.len; rw [enVs_length] at this; omega
  have Hr := Lib.hid hr; have Hl := Lib.hid hl
  clear hr hl
  go_enter Try.func27, Try.ntmps27
  go_wp2_with fail
  go_loopw [9, 10] (fun o i wr => ∃ (k : Nat) (u : Value), u = o ∧ k ≤ n ∧ i = .int .i64 (k : Int) ∧ wr.ownsRow w.heap.size 58 3 u (rangeE (l.take k) h a b).length (enVs (rangeE (l.take k) h a b)) ∧ Below w.heap.size w wr) (fun _ i _ => n - (intOf i).toNat)
  case atStart => exact ⟨0, _, rfl, Nat.zero_le _, rfl, World.ownsRow_nil _ _ _ _, Below.refl _ _⟩
  case round =>
    obtain ⟨k, u, rfl, hk, rfl, hown, hb⟩ := hrel
    have hfl : (rangeE (l.take k) h a b).length ≤ k := Nat.le_trans (range_le _ _ _ _) (by rw [List.length_take]; omega)
    by_cases hlt : k < n
    · obtain ⟨ad, ⟨p0, p1, p2⟩, rfl, hadB, hpq, hat⟩ := Hr.out.en (k := k) (by omega)
      have hat1 := hat.below hb (by rw [add_block]; omega)
      obtain ⟨hc0, hc1, hc2⟩ := hat1
      dsimp only at hc0 hc1 hc2
      have hsn := range_snoc l h a b k _ hpq
      dsimp only at hsn
      have Hsn := Lib.hid hsn; have Hown := Lib.hid hown; have Hb := Lib.hid hb
      have hbs := hb.size
      generalize rangeE (l.take k) h a b = F at hfl Hown Hsn
      have hlt' : (k : Int) < n := by omega
      clear hsn hown hb hat hpq
      by_cases h0 : p0 = h
      · have d0 : (p0 == h) = true := by simpa using h0
        by_cases h1 : a ≤ p1
        · have d1 : decide (a ≤ p1) = true := decide_eq_true h1
          by_cases h2 : p1 < b
          · have d2 : decide (p1 < b) = true := decide_eq_true h2
            have Hsn := Lib.hid (Hsn.out.trans (by rw [if_pos ⟨h0, h1, h2⟩]))
            clear h0 h1 h2
            go_wp2_with (at_builtin; refine wpList_append_lies _ rfl (.tmp 42) (.tmp 47) _ rfl w.heap.size 58 i0 _ 3 24 Try.underlying40 hi0 hz0 hz1 hz2 rfl (by omega) u F.length (enVs F) rfl (Hown.out.alloc _) ⟨wr.heap.size, 0, none⟩ 1 1 (enC (p0, p1, p2)) rfl rfl (World.news_of_block (cs := #[.int .i64 p0, .int .i64 p1, .int .i64 p2]) (heap_alloc_new wr _)) (by simp [enC, Value.oneCell']) (by omega) (by simp only [maxLen]; omega) (by omega) (by simp <;> omega) (wr.heap.size + 1) (by simp) ?_; intro g cp w2 hown2 hgrow hat2 hlt2)
            have hb2 : Below w.heap.size w w2 := (Hb.out.alloc hbs _).grown hgrow (by simp; omega) (fun q hq => (Hown.out.lt q hq).1)
            go_roundw
            case rel =>
              refine ⟨k + 1, _, rfl, by omega, by go_num, ?_, hb2⟩
              rw [Hsn.out]
              simpa [intVs, enVs] using hown2
            case measure => simp [intOf]; omega
          · have d2 : decide (p1 < b) = false := decide_eq_false h2
            have Hsn := Lib.hid (Hsn.out.trans (by rw [if_neg (fun q => h2 q.2.2)]))
            clear h0 h1 h2
            go_wp2_with fail
            go_roundw
            case rel =>
              refine ⟨k + 1, u, rfl, by omega, by go_num, ?_, Hb.out⟩
              rw [Hsn.out, List.append_nil]
              exact Hown.out
            case measure => simp [intOf]; omega
        · have d1 : decide (a ≤ p1) = false := decide_eq_false h1
          have Hsn := Lib.hid (Hsn.out.trans (by rw [if_neg (fun q => h1 q.2.1)]))
          clear h0 h1
          go_wp2_with fail
          go_roundw
          case rel =>
            refine ⟨k + 1, u, rfl, by omega, by go_num, ?_, Hb.out⟩
            rw [Hsn.out, List.append_nil]
            exact Hown.out
          case measure => simp [intOf]; omega
      · have d0 : (p0 == h) = false := by simpa using h0
        have Hsn := Lib.hid (Hsn.out.trans (by rw [if_neg (fun q => h0 q.1)]))
        clear h0
        go_wp2_with fail
        go_roundw
        case rel =>
          refine ⟨k + 1, u, rfl, by omega, by go_num, ?_, Hb.out⟩
          rw [Hsn.out, List.append_nil]
          exact Hown.out
        case measure => simp [intOf]; omega
    · obtain rfl : k = n := by omega
      have hd : decide (k < k) = false := by simp
      have ht : l.take k = l := List.take_of_length_le (Nat.le_of_eq Hl.out)
      rw [ht] at hown
      clear ht hfl
      have Hown := Lib.hid hown
      clear hown
      go_wp2_with fail
      go_ret
      exact ⟨u, rfl, Hown.out, hb⟩

theorem refCut_any (A : Option Addr) (n c B : Nat) (l : List En) (p : Int) (w : World) (hr : SlR w B 3 A n (enVs l)) (hB : B ≤ w.heap.size) (hn : n ≤ 1000000) :
    Calls Try.prog 16 #[.slice A n c, .int .i64 p] w fun x w' => ∃ u, x = .returned u ∧ w'.ownsRow w.heap.size 58 3 u (cutE l p).length (enVs (cutE l p)) ∧ Below w.heap.size w w' := by
  obtain ⟨i0, hi0, hz0, hz1, hz2⟩ := info_parts info_ren
  have hl : l.length = n := by have := hr.len; rw [enVs_length] at this; omega
  have Hr := Lib.hid hr; have Hl := Lib.hid hl
  clear hr hl
  go_enter Try.func16, Try.ntmps16
  go_wp2_with fail
  go_loopw [5, 6] (fun o i wr => ∃ (k : Nat) (u : Value), u = o ∧ k ≤ n ∧ i = .int .i64 (k : Int) ∧ wr.ownsRow w.heap.size 58 3 u (cutE (l.take k) p).length (enVs (cutE (l.take k) p)) ∧ Below w.heap.size w wr) (fun _ i _ => n - (intOf i).toNat)
  case atStart => exact ⟨0, _, rfl, Nat.zero_le _, rfl, World.ownsRow_nil _ _ _ _, Below.refl _ _⟩
  case round =>
    obtain ⟨k, u, rfl, hk, rfl, hown, hb⟩ := hrel
    have hfl : (cutE (l.take k) p).length ≤ k := Nat.le_trans (List.length_filter_le _ _) (by rw [List.length_take]; omega)
    by_cases hlt : k < n
    · obtain ⟨ad, ⟨p0, p1, p2⟩, rfl, hadB, hpq, hat⟩ := Hr.out.en (k := k) (by omega)
      have hat1 := hat.below hb (by rw [add_block]; omega)
      obtain ⟨hc0, hc1, hc2⟩ := hat1
      dsimp only at hc0 hc1 hc2
      have hsn := cut_snoc l p k _ hpq
      dsimp only at hsn
      have Hsn := Lib.hid hsn; have Hown := Lib.hid hown; have Hb := Lib.hid hb
      have hbs := hb.size
      generalize cutE (l.take k) p = F at hfl Hown Hsn
      have hlt' : (k : Int) < n := by omega
      clear hsn hown hb hat hpq
      by_cases h0 : p2 < p
      · have d0 : decide (p2 < p) = true := decide_eq_true h0
        have Hsn := Lib.hid (Hsn.out.trans (by rw [if_pos h0]))
        clear h0
        go_wp2_with (at_builtin; refine wpList_append_lies _ rfl (.tmp 20) (.tmp 25) _ rfl w.heap.size 58 i0 _ 3 24 Try.underlying40 hi0 hz0 hz1 hz2 rfl (by omega) u F.length (enVs F) rfl (Hown.out.alloc _) ⟨wr.heap.size, 0, none⟩ 1 1 (enC (p0, p1, p2)) rfl rfl (World.news_of_block (cs := #[.int .i64 p0, .int .i64 p1, .int .i64 p2]) (heap_alloc_new wr _)) (by simp [enC, Value.oneCell']) (by omega) (by simp only [maxLen]; omega) (by omega) (by simp <;> omega) (wr.heap.size + 1) (by simp) ?_; intro g cp w2 hown2 hgrow hat2 hlt2)
        have hb2 : Below w.heap.size w w2 := (Hb.out.alloc hbs _).grown hgrow (by simp; omega) (fun q hq => (Hown.out.lt q hq).1)
        go_roundw
        case rel =>
          refine ⟨k + 1, _, rfl, by omega, by go_num, ?_, hb2⟩
          rw [Hsn.out]
          simpa [intVs, enVs] using hown2
        case measure => simp [intOf]; omega
      · have d0 : decide (p2 < p) = false := decide_eq_false h0
        have Hsn := Lib.hid (Hsn.out.trans (by rw [if_neg (fun q => h0 q)]))
        clear h0
        go_wp2_with fail
        go_roundw
        case rel =>
          refine ⟨k + 1, u, rfl, by omega, by go_num, ?_, Hb.out⟩
          rw [Hsn.out, List.append_nil]
          exact Hown.out
        case measure => simp [intOf]; omega
    · obtain rfl : k = n := by omega
      have hd : decide (k < k) = false := by simp
      have ht : l.take k = l := List.take_of_length_le (Nat.le_of_eq Hl.out)
      rw [ht] at hown
      clear ht hfl
      have Hown := Lib.hid hown
      clear hown
      go_wp2_with fail
      go_ret
      exact ⟨u, rfl, Hown.out, hb⟩

end Go.Proofs.Ytgaeoglhammjiaa
