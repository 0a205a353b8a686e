/- chapter 14: what an index tells: Find, Range, Last, Len, Mem, has. -/
import Derived.Test.YtfjilngofdahgaaIx
import Derived.Deep.RegionHeld3
namespace Go.Proofs.Ytfjilngofdahgaa
open Go.RowKit
set_option maxHeartbeats 2000000
set_option maxRecDepth 100000
set_option linter.unusedVariables false

theorem allX_few (s : Tb × List Lv) (hw : wX s ≤ 900000) : (allX s.1 s.2).length ≤ 900000 := by
  have h1 := (adds_le [] (s.1 ++ s.2.flatten.flatten)).2
  have h2 := flats_len s.2
  rw [wX_eq] at hw
  simp only [List.length_append, List.length_nil] at h1
  unfold allX
  omega

theorem lenX_any (S : Nat → Prop) (g : Nat) (room most : Int) (s : Tb × List Lv) (w : World) (h : IxIs w S g room most s) (hw : wX s ≤ 900000) :
    Calls Try.prog 13 #[.pointer (some ⟨g, 0, none⟩)] w fun e w' => e = .returned (.int .i64 ((allX s.1 s.2).length : Int)) ∧ Below w.heap.size w w' := by
  have ht := tabX_any S g room most s w h hw
  have hf := allX_few s hw
  have Ht := Lib.hid ht
  clear h ht
  go_enter Try.func13, Try.ntmps13
  go_wp2_with fail
  refine Ht.out.mono ?_
  rintro e w1 ⟨r1, rfl, ht1, hr1, hb1⟩
  go_wp2_with fail
  refine (len_any 0 w.heap.size r1 _ w1 ht1 (by omega)).mono ?_
  rintro e w2 ⟨rfl, rfl⟩
  go_wp2_with fail
  go_ret
  exact ⟨rfl, hb1⟩
theorem findX_any (S : Nat → Prop) (g : Nat) (room most : Int) (s : Tb × List Lv) (a b : Int) (w : World) (h : IxIs w S g room most s) (hw : wX s ≤ 900000) :
    Calls Try.prog 24 #[.pointer (some ⟨g, 0, none⟩), .int .i64 a, .int .i64 b] w fun e w' => ∃ u, e = .returned u ∧ w'.ownsRow w.heap.size 3 1 u (findE (allX s.1 s.2) a b).length (intVs (findE (allX s.1 s.2) a b)) ∧ Below w.heap.size w w' := by
  have ht := tabX_any S g room most s w h hw
  have hf := allX_few s hw
  have Ht := Lib.hid ht
  clear h ht
  go_enter Try.func24, Try.ntmps24
  go_wp2_with fail
  refine Ht.out.mono ?_
  rintro e w1 ⟨r1, rfl, ht1, hr1, hb1⟩
  go_wp2_with fail
  refine (find_any 0 w.heap.size r1 _ a b w1 ht1 (by omega)).mono ?_
  rintro e w2 ⟨u, rfl, hown, hb2⟩
  go_wp2_with fail
  go_ret
  exact ⟨u, rfl, own_mono hown hb1.size, hb1.trans (hb2.mono hb1.size)⟩
theorem rangeX_any (S : Nat → Prop) (g : Nat) (room most : Int) (s : Tb × List Lv) (a b c : Int) (w : World) (h : IxIs w S g room most s) (hw : wX s ≤ 900000) :
    Calls Try.prog 21 #[.pointer (some ⟨g, 0, none⟩), .int .i64 a, .int .i64 b, .int .i64 c] w fun e w' => ∃ u, e = .returned u ∧ w'.ownsRow w.heap.size 27 3 u (rangeE (allX s.1 s.2) a b c).length (enVs (rangeE (allX s.1 s.2) a b c)) ∧ Below w.heap.size w w' := by
  have ht := tabX_any S g room most s w h hw
  have hf := allX_few s hw
  have Ht := Lib.hid ht
  clear h ht
  go_enter Try.func21, Try.ntmps21
  go_wp2_with fail
  refine Ht.out.mono ?_
  rintro e w1 ⟨r1, rfl, ht1, hr1, hb1⟩
  go_wp2_with fail
  refine (range_any 0 w.heap.size r1 _ a b c w1 ht1 (by omega)).mono ?_
  rintro e w2 ⟨u, rfl, hown, hb2⟩
  go_wp2_with fail
  go_ret
  exact ⟨u, rfl, own_mono hown hb1.size, hb1.trans (hb2.mono hb1.size)⟩
theorem lastX_any (S : Nat → Prop) (g : Nat) (room most : Int) (s : Tb × List Lv) (a : Int) (w : World) (h : IxIs w S g room most s) (hw : wX s ≤ 900000) :
    Calls Try.prog 18 #[.pointer (some ⟨g, 0, none⟩), .int .i64 a] w fun e w' => e = .returned (.tuple #[enA ((lastE (allX s.1 s.2) a).getD (0, 0, 0)), .bool (lastE (allX s.1 s.2) a).isSome]) ∧ Below w.heap.size w w' := by
  have hb0 : Below w.heap.size w (w.alloc (.cells #[.int .i64 0, .int .i64 0, .int .i64 0] 27)) := (Below.refl _ _).alloc (Nat.le_refl _) _
  have hE := BlkIs.new w 27 #[.int .i64 0, .int .i64 0, .int .i64 0]
  have ht := tabX_any S g room most s _ (h.below hb0) hw
  have hf := allX_few s hw
  have hla := fun T r w ht => last_any 0 T r (allX s.1 s.2) a w ht (by omega)
  obtain ⟨p, hp⟩ : ∃ p, p = (lastE (allX s.1 s.2) a).getD (0, 0, 0) := ⟨_, rfl⟩
  obtain ⟨q, hq⟩ : ∃ q, q = (lastE (allX s.1 s.2) a).isSome := ⟨_, rfl⟩
  rw [← hp, ← hq] at hla ⊢
  obtain ⟨p0, p1, p2⟩ := p
  obtain ⟨W0, hW0⟩ : ∃ W, w.alloc (.cells #[.int .i64 0, .int .i64 0, .int .i64 0] 27) = W := ⟨_, rfl⟩
  rw [hW0] at hb0 hE ht
  have Ht := Lib.hid ht; have Hla := Lib.hid hla; have HE := Lib.hid hE; have Hb0 := Lib.hid hb0
  clear h ht hla hE hb0 hp hq
  go_enter Try.func18, Try.ntmps18
  go_wp2_with fail
  (try rw [hW0])
  refine Ht.out.mono ?_
  rintro e w1 ⟨r1, rfl, ht1, hr1, hb1⟩
  have E1 := Lib.hid (HE.out.below hb1 HE.out.lt); have B1 := Lib.hid (Hb0.out.trans (hb1.mono Hb0.out.size))
  clear hW0
  go_wp2_with fail
  refine (Hla.out _ r1 w1 ht1).mono ?_
  rintro e w2 ⟨rfl, hb2⟩
  have hE2 := E1.out.below hb2 E1.out.lt
  have B2 := Lib.hid (B1.out.trans (hb2.mono B1.out.size))
  have hc := hE2.cell; have hfr := hE2.free; have hlt := hE2.lt
  have E2 := Lib.hid hE2
  clear ht1 hr1 hb1 hb2 hE2
  unfold enA
  dsimp only
  go_wp2_with fail
  obtain ⟨W9, hW9⟩ : ∃ W, ((w2.setCell ⟨w.heap.size, 0, none⟩ (.int .i64 p0)).setCell ⟨w.heap.size, 1, none⟩ (.int .i64 p1)).setCell ⟨w.heap.size, 2, none⟩ (.int .i64 p2) = W := ⟨_, rfl⟩
  have hB9 : BlkIs W9 w.heap.size 27 #[.int .i64 p0, .int .i64 p1, .int .i64 p2] := by rw [← hW9]; exact ((E2.out.put 0 _).put 1 _).put 2 _
  have hb9 : Below w.heap.size w W9 := by rw [← hW9]; exact ((B2.out.setCell (p := ⟨w.heap.size, 0, none⟩) (Nat.le_refl _) _).setCell (p := ⟨w.heap.size, 1, none⟩) (Nat.le_refl _) _).setCell (p := ⟨w.heap.size, 2, none⟩) (Nat.le_refl _) _
  (try rw [hW9])
  have c0 := hB9.cell 0; have c1 := hB9.cell 1; have c2 := hB9.cell 2
  simp at c0 c1 c2
  exact bodyPost_ret (v := .tuple #[.agg #[.int .i64 p0, .int .i64 p1, .int .i64 p2], .bool q]) (by clear hW9; simp [results, Try.results18, go_sem, c0, c1, c2]) rfl ⟨rfl, hb9⟩
theorem memX_any (S : Nat → Prop) (g : Nat) (room most : Int) (s : Tb × List Lv) (w : World) (h : IxIs w S g room most s) (hw : wX s ≤ 900000) :
    Calls Try.prog 11 #[.pointer (some ⟨g, 0, none⟩)] w fun e w' => e = .returned (.int .i64 (s.1.length : Int)) ∧ w = w' := by
  obtain ⟨T, r, v, vs, h⟩ := h
  have k1 := h.blk.cell 2
  simp at k1
  rw [wX_eq] at hw
  have hl := len_any 0 T r s.1 w h.tab (by omega)
  have Hl := Lib.hid hl
  clear hl h
  go_enter Try.func11, Try.ntmps11
  go_wp2_with fail
  refine Hl.out.mono ?_
  rintro e w1 ⟨rfl, rfl⟩
  go_wp2_with fail
  go_ret
  exact ⟨rfl, rfl⟩

theorem indexI_any (A : Option Addr) (n c B : Nat) (zs : List Int) (x : Int) (w : World) (hr : SlR w B 1 A n (intVs zs)) (hn : n ≤ 1000000) :
    Calls Try.prog 76 #[.slice A n c, .int .i64 x] w fun e w' => ∃ i : Int, e = .returned (.int .i64 i) ∧ decide (0 ≤ i) = decide (x ∈ zs) ∧ w = w' := by
  have hl : zs.length = n := by have := hr.len; simpa [intVs] using this
  have Hr := Lib.hid hr; have Hl := Lib.hid hl
  clear hr hl
  go_enter Try.func76, Try.ntmps76
  go_wp2_with fail
  go_loopw [8] (fun i wr => ∃ k : Nat, k ≤ n ∧ i = .int .i64 (k : Int) ∧ (x ∉ zs.take k) ∧ wr = w) (fun i _ => n - (intOf i).toNat)
  case atStart => exact ⟨0, Nat.zero_le _, rfl, by simp, rfl⟩
  case round =>
    obtain ⟨k, hk, rfl, hno, rfl⟩ := hrel
    have Hno := Lib.hid hno
    clear hno
    have hk0 : (0 : Int) ≤ (k : Int) := by omega
    by_cases hlt : k < n
    · obtain ⟨ad, u, rfl, had, hu, hcu⟩ := Hr.out.get hlt
      obtain ⟨y, hy, rfl⟩ := intVs_get hu
      have hk1 : (k : Int) < (n : Int) := by omega
      have Hy := Lib.hid hy
      clear hu hy had
      by_cases hxy : x = y
      · have e1 : (x == y) = true := by simpa using hxy
        have HF : Hid (decide ((0 : Int) ≤ (k : Int)) = decide (x ∈ zs)) := Lib.hid (by rw [decide_eq_true hk0, decide_eq_true (by rw [hxy]; exact List.mem_of_getElem? Hy.out)])
        clear hxy
        go_wp2_with fail
        go_ret
        exact ⟨(k : Int), rfl, HF.out, rfl⟩
      · have e1 : (x == y) = false := by simpa using hxy
        have HN : Hid (x ∉ zs.take (k + 1)) := Lib.hid (by
          rw [List.take_add_one, Hy.out]
          simp only [Option.toList_some, List.mem_append, List.mem_singleton, not_or]
          exact ⟨Hno.out, hxy⟩)
        clear hxy
        go_wp2_with fail
        go_roundw
        case rel => exact ⟨k + 1, by omega, by go_num, HN.out, by first | rfl | trivial⟩
        case measure => simp [intOf]; omega
    · obtain rfl : k = n := by omega
      have dkk : decide (k < k) = false := by simp
      have HF : Hid (decide ((0 : Int) ≤ (-1 : Int)) = decide (x ∈ zs)) := Lib.hid (by
        have := Hno.out
        rw [List.take_of_length_le (by have := Hl.out; omega)] at this
        rw [decide_eq_false this]; rfl)
      clear hlt
      go_wp2_with fail
      go_ret
      exact ⟨-1, rfl, HF.out, rfl⟩
theorem contains_any (A : Option Addr) (n c B : Nat) (zs : List Int) (x : Int) (w : World) (hr : SlR w B 1 A n (intVs zs)) (hn : n ≤ 1000000) :
    Calls Try.prog 56 #[.slice A n c, .int .i64 x] w fun e w' => e = .returned (.bool (decide (x ∈ zs))) ∧ w = w' := by
  have hi := indexI_any A n c B zs x w hr hn
  have Hi := Lib.hid hi
  clear hr hi
  go_enter Try.func56, Try.ntmps56
  go_wp2_with fail
  refine Hi.out.mono ?_
  rintro e w1 ⟨i, rfl, hd, rfl⟩
  have Hd := Lib.hid hd
  clear hd
  go_wp2_with fail
  go_ret
  rw [← Hd.out]
  exact ⟨rfl, rfl⟩

theorem hasX_any (S : Nat → Prop) (g : Nat) (room most : Int) (s : Tb × List Lv) (e0 e1 e2 : Int) (w : World) (h : IxIs w S g room most s) (hw : wX s ≤ 900000) :
    Calls Try.prog 32 #[.pointer (some ⟨g, 0, none⟩), .agg #[.int .i64 e0, .int .i64 e1, .int .i64 e2]] w fun e w' => e = .returned (.bool (hasX s (e0, e1, e2))) ∧ Below w.heap.size w w' := by
  obtain ⟨V, hV⟩ : ∃ V, w.alloc (.cells #[.int .i64 e0, .int .i64 e1, .int .i64 e2] 27) = V := ⟨_, rfl⟩
  have hb0 : Below w.heap.size w V := by rw [← hV]; exact (Below.refl _ _).alloc (Nat.le_refl _) _
  have hE : BlkIs V w.heap.size 27 #[.int .i64 e0, .int .i64 e1, .int .i64 e2] := by rw [← hV]; exact BlkIs.new _ _ _
  have hS0 : ∀ wx, Below V.heap.size V wx → wx.cell? ⟨w.heap.size, 0, none⟩ = some (.int .i64 e0) ∧ wx.cell? ⟨w.heap.size, 1, none⟩ = some (.int .i64 e1) ∧ wx.cell? ⟨w.heap.size, 2, none⟩ = some (.int .i64 e2) := fun wx h => by
    have := (hE.below h hE.lt).cell
    exact ⟨this 0, this 1, this 2⟩
  have hfi := fun wx (hb : Below V.heap.size V wx) => findX_any S g room most s e0 e1 wx (h.below (hb0.trans (hb.mono hb0.size))) hw
  have hfe : (findE (allX s.1 s.2) e0 e1).length ≤ 900000 := Nat.le_trans (by unfold findE; rw [List.length_map]; exact List.length_filter_le _ _) (allX_few s hw)
  have hx : hasX s (e0, e1, e2) = decide (e2 ∈ findE (allX s.1 s.2) e0 e1) := rfl
  rw [hx]
  generalize findE (allX s.1 s.2) e0 e1 = zs at hfi hfe ⊢
  have HS := Lib.hid hS0; have Hfi := Lib.hid hfi; have HB0 := Lib.hid hb0
  have HB := Below.refl V.heap.size V
  have hS := hS0 _ HB
  clear h hE hfi hb0 hS0 hx
  go_enter Try.func32, Try.ntmps32
  go_wp2_with fail
  (try rw [hV])
  go_region_held3 (fun wx => wx.cell? ⟨w.heap.size, 0, none⟩ = some (.int .i64 e0) ∧ wx.cell? ⟨w.heap.size, 1, none⟩ = some (.int .i64 e1) ∧ wx.cell? ⟨w.heap.size, 2, none⟩ = some (.int .i64 e2)) (first | exact hS | go_keep) ((first
    | (go_at_call 24; refine (Hfi.out _ (by first | exact HB | exact below_drewN HB 1)).mono ?_; rintro e wx ⟨u, rfl, hown, hb⟩; obtain ⟨A, c, rfl, hnc⟩ := own_slice hown; have hr := SlR.own hown; have HB := HB.trans ((by first | exact hb | exact below_undrew hb : Below _ _ _).mono HB.size); have hS := HS.out _ HB)
    | (go_at_call 56; refine (contains_any A zs.length c _ zs e2 _ hr (by omega)).mono ?_; rintro e wx ⟨rfl, rfl⟩)))
  all_goals
    go_wp2_with fail
    go_ret
    exact ⟨rfl, HB0.out.trans ((by first | exact HB | exact below_drewN HB 1 : Below V.heap.size V _).mono HB0.out.size)⟩
end Go.Proofs.Ytfjilngofdahgaa
