/- chapter 12: slices.Insert of one entry into a row of one's own. -/
import Derived.Test.YtfjilngofdahgaaJIndexBytes2
import Derived.Test.YtfjilngofdahgaaCIndexBytesCopy
import Derived.Lib.Overlaps
import Derived.Laws.Externs

namespace Go.Proofs.Ytfjilngofdahgaa
open Go.RowKit
set_option maxHeartbeats 4000000
set_option maxRecDepth 100000
set_option linter.unusedVariables false

theorem info_en : (Try.prog.info? 27).map (fun i => (i.zero, i.size, i.bytes)) = some (some (.agg #[.int .i64 0, .int .i64 0, .int .i64 0]), 3, 24) := by kernel_rfl
theorem size_en (w : World) : (Go.sizeOf 27).run Try.prog w = .ok 3 w := by kernel_rfl

/-- room, and not at the end: in place -/
theorem insert_room (base g n c i vb : Nat) (l : List En) (e : En) (w : World) (hown : w.ownsRow base 27 3 (.slice (some ⟨g, 0, none⟩) n c) n (enVs l)) (hv : BlkIs w vb 27 #[.int .i64 e.1, .int .i64 e.2.1, .int .i64 e.2.2]) (hvg : vb ≠ g)
    (hi : i < n) (hn : n ≤ 1000000) (hroom : n + 1 ≤ c) :
    Calls Try.prog 36 #[.slice (some ⟨g, 0, none⟩) n c, .int .i64 i, .slice (some ⟨vb, 0, none⟩) 1 1] w fun x w' => x = .returned (.slice (some ⟨g, 0, none⟩) (n + 1) c) ∧
      w'.ownsRow base 27 3 (.slice (some ⟨g, 0, none⟩) (n + 1) c) (n + 1) (enVs (l.take i ++ e :: l.drop i)) ∧ w.grownBy w' (some g) := by
  obtain ⟨i0, hi0, hz0, hz1, hz2⟩ := info_parts info_en
  obtain ⟨hbg, hnc, hcm, cur, hcur, hcs, htake⟩ := own_block hown
  have hl : l.length = n := by have := hown.1; rw [enVs_length] at this; omega
  have hsa : w.shape? vb = some (27, 3) := by unfold World.shape?; rw [show w.heap[vb]? = _ from hv]; rfl
  have hsb : w.shape? g = some (27, c * 3) := by unfold World.shape?; rw [hcur]; simp [hcs]
  have hov : ∀ lb cb, (callFunc 59 #[.slice (some ⟨vb, 0, none⟩) 1 1, .slice (some ⟨g, (i + 1) * 3, none⟩) lb cb]).run Try.prog w = .ok (.value (.bool false)) w := fun lb cb => by
    rw [run_callFunc_extern Try.func59 (by kernel_rfl) (by kernel_rfl) (by kernel_rfl) (e := Extern.SlicesOverlaps.overlaps #[32, 32] #[4]) (by kernel_rfl),
      Lib.run_overlaps_apart w 32 4 27 Try.underlying32 3 size_en ⟨vb, 0, none⟩ ⟨g, (i + 1) * 3, none⟩ 1 1 lb cb hvg 27 27 3 (c * 3) hsa hsb (by omega) (hv.free 0) (hv.free 3)]
    rfl
  have hsz3 : i0.size = 3 := hz1
  have hdl : (enVs (l.drop i)).length = (n - i) * 3 := by rw [enVs_length, List.length_drop, hl]
  have hcell : ∀ k, k < (n + 1) * 3 → (w.cell? ⟨g, k, none⟩).isSome = true := fun k hk => by
    rw [cell_of_row w g k cur _ (0, 0) hcur, Array.getElem?_eq_getElem (by rw [hcs]; omega)]; rfl
  have hfrz : ∀ k, w.frozen? ⟨g, k, none⟩ = false := fun k => by simp [World.frozen?, hcur]
  have hrow : ∀ k v, (enVs l)[k]? = some v → w.cell? ⟨g, k, none⟩ = some v := fun k v hk => by
    rw [cell_of_row w g k cur _ (0, 0) hcur, ← Array.getElem?_toList]
    rw [← htake, List.getElem?_take] at hk
    split at hk
    · exact hk
    · cases hk
  have hcp1 : ∀ ty o1 dl dc o2 sl sc, o1 = (i + 1) * 3 → o2 = i * 3 → dl = n - i → sl = n + 1 - i → (Builtin.copy_ #[32, 32] ty #[.slice (some ⟨g, o1, none⟩) dl dc, .slice (some ⟨g, o2, none⟩) sl sc]).run Try.prog w.drew = .ok (goInt (Nat.min (n + 1 - i) (n - i))) (w.drew.setCells g ((i + 1) * 3) (enVs (l.drop i))) := by
    rintro ty o1 dl dc o2 sl sc rfl rfl rfl rfl
    exact run_copy_rows w.drew _ _ ty 27 i0 3 g ((i + 1) * 3) _ dc ⟨g, i * 3, none⟩ _ sc (enVs (l.drop i)) Try.underlying32 hi0 hsz3 (by rw [hdl]; simp only [Nat.min_def]; split <;> omega)
      (fun k v hk => by rw [Addr.add_lit]; rw [← enVs_drop, List.getElem?_drop] at hk; exact hrow _ v hk)
      (fun k hk => hcell _ (by omega)) (fun k _ => hfrz _) (enVs_one _)
  obtain ⟨W1, hW1⟩ : ∃ W1, w.drew.setCells g ((i + 1) * 3) (enVs (l.drop i)) = W1 := ⟨_, rfl⟩
  rw [hW1] at hcp1
  obtain ⟨ys, hlong, hyl⟩ := own_long hown hroom (Nat.le_succ n)
  have hyl : ys.length = 3 := by rw [hyl]; omega
  have hlong : w.drew.ownsRow base 27 3 (.slice (some ⟨g, 0, none⟩) (n + 1) c) (n + 1) (enVs l ++ ys) := hlong
  obtain ⟨ho1, hg1⟩ := own_setM (enVs (l.drop i)) (enVs l ++ ys) ((i + 1) * 3) w.drew hlong
  rw [hW1] at ho1 hg1
  obtain ⟨_, _, _, cur1, hcur1, hcs1, _⟩ := own_block ho1
  have hv1 : BlkIs W1 vb 27 #[.int .i64 e.1, .int .i64 e.2.1, .int .i64 e.2.2] := hv.drew.grown hg1 (by simpa using hvg)
  have hcp2 : ∀ W, W = W1 → ∀ ty o1 dl dc, o1 = i * 3 → dl = n + 1 - i → (Builtin.copy_ #[32, 32] ty #[.slice (some ⟨g, o1, none⟩) dl dc, .slice (some ⟨vb, 0, none⟩) 1 1]).run Try.prog W = .ok (goInt (Nat.min 1 (n + 1 - i))) (W.setCells g (i * 3) (enC e)) := by
    rintro W rfl ty o1 dl dc rfl rfl
    exact run_copy_rows W _ _ ty 27 i0 3 g (i * 3) _ dc ⟨vb, 0, none⟩ _ 1 (enC e) Try.underlying32 hi0 hsz3 (by rw [enC_length]; simp only [Nat.min_def]; split <;> omega)
      (fun k v hk => by rw [Addr.add_lit, Nat.zero_add, hv1.cell]; simpa [enC] using hk)
      (fun k hk => by rw [enC_length] at hk; rw [cell_of_row W g _ cur1 _ (0, 0) hcur1, Array.getElem?_eq_getElem (by rw [hcs1]; omega)]; rfl) (fun k _ => by simp [World.frozen?, hcur1]) (enC_one e)
  obtain ⟨ho2, hg2⟩ := own_setM (enC e) _ (i * 3) W1 ho1
  have hlist : setM (setM (enVs l ++ ys) ((i + 1) * 3) (enVs (l.drop i))) (i * 3) (enC e) = enVs (l.take i ++ e :: l.drop i) := by
    have hL : (enVs l ++ ys).length = (n + 1) * 3 := by rw [List.length_append, enVs_length, hl, hyl]; omega
    have h1 : setM (enVs l ++ ys) ((i + 1) * 3) (enVs (l.drop i)) = (enVs l ++ ys).take ((i + 1) * 3) ++ enVs (l.drop i) := by
      rw [setM_eq _ _ _ (by rw [hL, hdl]; omega), show List.drop ((i + 1) * 3 + (enVs (l.drop i)).length) (enVs l ++ ys) = [] from List.drop_of_length_le (by rw [hL, hdl]; omega), List.append_nil]
    have hT : ((enVs l ++ ys).take ((i + 1) * 3)).length = (i + 1) * 3 := by rw [List.length_take, hL]; omega
    rw [h1, setM_eq _ _ _ (by rw [List.length_append, hT, hdl, enC_length]; omega), enC_length]
    rw [List.take_append_of_le_length (by rw [hT]; omega), List.take_take, Nat.min_eq_left (by omega), List.take_append_of_le_length (by rw [enVs_length, hl]; omega), enVs_take]
    rw [show i * 3 + 3 = ((enVs l ++ ys).take ((i + 1) * 3)).length from by rw [hT]; omega, List.drop_left' rfl]
    rw [enVs_append, enVs_cons, List.append_assoc]
  rw [hlist] at ho2
  have hg3 : w.grownBy (W1.setCells g (i * 3) (enC e)) (some g) :=
    ⟨hg2.os.trans hg1.os, hg2.tape.trans hg1.tape, hg2.output.trans hg1.output, Nat.le_trans hg1.size hg2.size, fun k hk hne => (hg2.block k (Nat.lt_of_lt_of_le hk hg1.size) hne).trans (hg1.block k hk hne)⟩
  have Ho2 := Lib.hid ho2; have Hg3 := Lib.hid hg3; have Hcp1 := Lib.hid hcp1; have Hcp2 := Lib.hid hcp2
  have hw1 : IntKind.i64.wrap ((i : Int) + 1) = (i : Int) + 1 := by rw [IntKind.wrap_i64]; omega
  have hb1 : (0 : Int) ≤ (i : Int) + 1 := by omega
  have htn : ((i : Int) + 1).toNat = i + 1 := by omega
  have hb2 : ¬ (c = i + 1) := by omega
  have hb3 : (i : Int) ≤ (n : Int) + 1 := by omega
  have hb4 : ¬ (c = i) := by omega
  have hin : i ≤ n := by omega
  clear ho2 hg3 hcp1 hcp2 ho1 hg1 hg2 hlong hcell hrow hlist hv1 hcur1 hcs1 hcur hcs htake hv hown hsa hsb hfrz
  have hE1 := Hcp1.out 3 ((i + 1) * 3) (n - i) (c - (i + 1)) (i * 3) (n + 1 - i) (c - i) rfl rfl rfl rfl
  have hE2 := Hcp2.out W1 rfl 3 (i * 3) (n + 1 - i) (c - i) rfl rfl
  clear hW1
  go_enter Try.func36, Try.ntmps36
  go_wp2_with (simp only [hov])
  go_region_law (fail)
  go_wp2_with (simp only [hE2])
  go_ret
  exact ⟨rfl, Ho2.out, Hg3.out⟩

/-- into nothing -/
theorem insert_nil (base vb : Nat) (e : En) (w : World) (hv : BlkIs w vb 27 #[.int .i64 e.1, .int .i64 e.2.1, .int .i64 e.2.2]) (hb : base ≤ w.heap.size) :
    Calls Try.prog 36 #[.slice none 0 0, .int .i64 0, .slice (some ⟨vb, 0, none⟩) 1 1] w fun x w' => ∃ v', x = .returned v' ∧
      w'.ownsRow base 27 3 v' 1 (enVs [e]) ∧ w.grownBy w' none ∧ (v'.ownBlock = none ∨ v'.ownBlock = some w.heap.size) := by
  obtain ⟨i0, hi0, hz0, hz1, hz2⟩ := info_parts info_en
  have hsr : SlR w w.heap.size 3 (some ⟨vb, 0, none⟩) 1 (enC e) := SlR.blk hv rfl hv.lt
  have Hsr := Lib.hid hsr
  clear hsr hv
  go_enter Try.func36, Try.ntmps36
  go_wp2_with (at_builtin; refine wpList_append_sl _ rfl (.tmp 23) (.tmp 24) _ rfl base 27 i0 _ 3 24 Try.underlying32 hi0 hz0 hz1 hz2 rfl (by omega) (.slice none 0 0) 0 [] rfl (World.ownsRow_nil _ _ _ _) _ (some ⟨vb, 0, none⟩) 1 1 (enC e) rfl Hsr.out (enC_one e) (by simp only [maxLen]; omega) (by omega) hb ?_; intro v1 w1 hown1 hg1 hat1)
  all_goals
    go_ret
    refine ⟨v1, rfl, ?_, hg1, hat1⟩
    simpa [enVs] using hown1
/-- at the end -/
theorem insert_end (base n c vb : Nat) (A : Option Addr) (l : List En) (e : En) (w : World) (hown : w.ownsRow base 27 3 (.slice A n c) n (enVs l)) (hv : BlkIs w vb 27 #[.int .i64 e.1, .int .i64 e.2.1, .int .i64 e.2.2]) (hn : n ≤ 1000000) (hb : base ≤ w.heap.size) :
    Calls Try.prog 36 #[.slice A n c, .int .i64 n, .slice (some ⟨vb, 0, none⟩) 1 1] w fun x w' => ∃ v', x = .returned v' ∧
      w'.ownsRow base 27 3 v' (n + 1) (enVs (l ++ [e])) ∧ w.grownBy w' (Value.slice A n c).ownBlock ∧ (v'.ownBlock = (Value.slice A n c).ownBlock ∨ v'.ownBlock = some w.heap.size) := by
  obtain ⟨i0, hi0, hz0, hz1, hz2⟩ := info_parts info_en
  have hnc : n ≤ c := by obtain ⟨A2, c2, h1, h2⟩ := own_slice hown; injection h1 with _ _ h3; omega
  have hform : (A = none ∧ n = 0 ∧ c = 0) ∨ ∃ g, A = some ⟨g, 0, none⟩ := by
    rcases hown.2 with ⟨h1, h2⟩ | ⟨g, cap, cur, h1, _⟩
    · injection h1 with h3 h4 h5; exact .inl ⟨h3, h2, h5⟩
    · injection h1 with h3 h4 h5; exact .inr ⟨g, h3⟩
  rcases hform with ⟨rfl, rfl, rfl⟩ | ⟨g, rfl⟩
  · have hl : l = [] := List.eq_nil_of_length_eq_zero (by have := hown.1; rw [enVs_length] at this; omega)
    subst hl
    exact insert_nil base vb e w hv hb
  · have hsr : SlR w w.heap.size 3 (some ⟨vb, 0, none⟩) 1 (enC e) := SlR.blk hv rfl hv.lt
    have Hsr := Lib.hid hsr
    clear hsr hv
    by_cases hcn : c = n
    · subst hcn
      have Hown := Lib.hid hown
      clear hown
      go_enter Try.func36, Try.ntmps36
      go_wp2_with (at_builtin; refine wpList_append_sl _ rfl (.tmp 23) (.tmp 24) _ rfl base 27 i0 _ 3 24 Try.underlying32 hi0 hz0 hz1 hz2 rfl (by omega) (.slice (some ⟨g, 0, none⟩) c c) c (enVs l) rfl Hown.out _ (some ⟨vb, 0, none⟩) 1 1 (enC e) rfl Hsr.out (enC_one e) (by simp only [maxLen]; omega) (by omega) hb ?_; intro v1 w1 hown1 hg1 hat1)
      all_goals
        go_ret
        refine ⟨v1, rfl, ?_, hg1, hat1⟩
        rw [enVs_append]
        simpa [enVs] using hown1
    · have Hown := Lib.hid hown
      clear hown
      go_enter Try.func36, Try.ntmps36
      go_wp2_with (at_builtin; refine wpList_append_sl _ rfl (.tmp 23) (.tmp 24) _ rfl base 27 i0 _ 3 24 Try.underlying32 hi0 hz0 hz1 hz2 rfl (by omega) (.slice (some ⟨g, 0, none⟩) n c) n (enVs l) rfl Hown.out _ (some ⟨vb, 0, none⟩) 1 1 (enC e) rfl Hsr.out (enC_one e) (by simp only [maxLen]; omega) (by omega) hb ?_; intro v1 w1 hown1 hg1 hat1)
      all_goals
        go_ret
        refine ⟨v1, rfl, ?_, hg1, hat1⟩
        rw [enVs_append]
        simpa [enVs] using hown1

/-- no room, and not at the end: a new row -/
theorem insert_grow (base g n c i vb : Nat) (l : List En) (e : En) (w : World) (hown : w.ownsRow base 27 3 (.slice (some ⟨g, 0, none⟩) n c) n (enVs l)) (hv : BlkIs w vb 27 #[.int .i64 e.1, .int .i64 e.2.1, .int .i64 e.2.2])
    (hi : i < n) (hn : n ≤ 1000000) (hroom : c < n + 1) (hb : base ≤ w.heap.size) :
    Calls Try.prog 36 #[.slice (some ⟨g, 0, none⟩) n c, .int .i64 i, .slice (some ⟨vb, 0, none⟩) 1 1] w fun x w' => ∃ v', x = .returned v' ∧
      w'.ownsRow base 27 3 v' (n + 1) (enVs (l.take i ++ e :: l.drop i)) ∧ w.grownBy w' none ∧ v'.ownBlock = some w.heap.size := by
  obtain ⟨i0, hi0, hz0, hz1, hz2⟩ := info_parts info_en
  obtain ⟨hbg, hnc, hcm, cur, hcur, hcs, htake⟩ := own_block hown
  have hl : l.length = n := by have := hown.1; rw [enVs_length] at this; omega
  obtain rfl : c = n := by omega
  have hgl : g < w.heap.size := (Array.getElem?_eq_some_iff.1 hcur).1
  have hvl := hv.lt
  have hrow : ∀ k v, (enVs l)[k]? = some v → w.cell? ⟨g, k, none⟩ = some v := fun k v hk => by
    rw [cell_of_row w g k cur _ (0, 0) hcur, ← Array.getElem?_toList]
    rw [← htake, List.getElem?_take] at hk
    split at hk
    · exact hk
    · cases hk
  have hold : (Builtin.firstCells i0.size i (.slice (some ⟨g, 0, none⟩) i c)).run Try.prog w.drew = .ok (enVs (l.take i)).toArray w.drew := by
    rw [hz1]
    exact run_firstCells_some w.drew 3 i ⟨g, 0, none⟩ i c (enVs (l.take i)) (by rw [enVs_length, List.length_take, hl]; omega) (fun j v hj => by
      rw [Addr.add_lit, Nat.zero_add]
      rw [← enVs_take, List.getElem?_take] at hj
      split at hj
      · exact hrow j v hj
      · cases hj)
  have hkk : (c : Int) + 1 - (i : Int) = ((c + 1 - i : Nat) : Int) := by omega
  have hik : i + (c + 1 - i) = c + 1 := by omega
  obtain ⟨G, hG⟩ : ∃ G, grownCap w (c + 1) c 27 = G := ⟨_, rfl⟩
  have hGn : c + 1 ≤ G := by rw [← hG]; exact grownCap_ge w _ _ _
  have hGm : G ≤ maxLen := by rw [← hG]; exact grownCap_le_maxLen w _ _ _ (by simp only [maxLen]; omega)
  obtain ⟨W1, hW1⟩ : ∃ W1, w.drew.alloc (.cells ((enVs (l.take i)).toArray ++ Builtin.zeroCells (Value.agg #[.int .i64 0, .int .i64 0, .int .i64 0]).cells (c + 1 - i) ++ Builtin.zeroCells (Value.agg #[.int .i64 0, .int .i64 0, .int .i64 0]).cells (G - (c + 1))) 27) = W1 := ⟨_, rfl⟩
  have hrz : ∀ ty, (Builtin.append_ #[32, 3] ty #[.slice (some ⟨g, 0, none⟩) i c, .int .i64 ((c : Int) + 1 - (i : Int))]).run Try.prog w = .ok (.slice (some ⟨w.heap.size, 0, none⟩) (c + 1) G) W1 := fun ty => by
    have h := Lib.run_append_grow_zeros w 32 3 ty 27 i0 _ .i64 .i64 Try.underlying32 Try.underlying3 hi0 hz0 (some ⟨g, 0, none⟩) i c (enVs (l.take i)) hold (c + 1 - i) (by omega) (by rw [hz1]; omega) (by omega) (by omega) (by rw [hz2]; omega) (by rw [hz2, hik]; exact growslice_fits (by omega) (by omega))
    rw [hik, hG, hW1] at h
    rw [hkk]
    exact h
  have ho1 : W1.ownsRow base 27 3 (.slice (some ⟨w.heap.size, 0, none⟩) (c + 1) G) (c + 1) (enVs (l.take i) ++ (Builtin.zeroCells (Value.agg #[.int .i64 0, .int .i64 0, .int .i64 0]).cells (c + 1 - i)).toList) := by
    have h := own_zeros w.drew base 27 3 i (c + 1 - i) G (enVs (l.take i)) (.agg #[.int .i64 0, .int .i64 0, .int .i64 0]) rfl (by rw [enVs_length, List.length_take, hl]; omega) (by omega) hGm hb
    rw [hik, hW1] at h
    exact h
  have hb1 : Below w.heap.size w W1 := by rw [← hW1]; exact ((Below.refl w.heap.size w).drew).alloc (Nat.le_refl _) _
  have hv1 := hv.below hb1 hvl
  have hcur1 : W1.heap[g]? = some (.cells cur 27 (0, 0)) := (hb1.block g hgl).trans hcur
  have hrow1 : ∀ k v, (enVs l)[k]? = some v → W1.cell? ⟨g, k, none⟩ = some v := fun k v hk => (hb1.cell (p := ⟨g, k, none⟩) hgl).trans (hrow k v hk)
  have cellN : ∀ (W : World) (xs : List Value) (k : Nat), W.ownsRow base 27 3 (.slice (some ⟨w.heap.size, 0, none⟩) (c + 1) G) (c + 1) xs → k < (c + 1) * 3 → (W.cell? ⟨w.heap.size, k, none⟩).isSome = true ∧ W.frozen? ⟨w.heap.size, k, none⟩ = false := fun W xs k ho hk => by
    obtain ⟨_, _, _, cu, hcu, hcz, _⟩ := own_block ho
    exact ⟨by rw [cell_of_row W _ k cu _ (0, 0) hcu, Array.getElem?_eq_getElem (by rw [hcz]; omega)]; rfl, by simp [World.frozen?, hcu]⟩
  have hE1 : (Builtin.copy_ #[32, 32] 3 #[.slice (some ⟨w.heap.size, i * 3, none⟩) (c + 1 - i) (G - i), .slice (some ⟨vb, 0, none⟩) 1 1]).run Try.prog W1 = .ok (goInt (Nat.min 1 (c + 1 - i))) (W1.setCells w.heap.size (i * 3) (enC e)) :=
    run_copy_rows W1 _ _ _ 27 i0 3 w.heap.size (i * 3) _ _ ⟨vb, 0, none⟩ _ 1 (enC e) Try.underlying32 hi0 hz1 (by rw [enC_length]; simp only [Nat.min_def]; split <;> omega)
      (fun k v hk => by rw [Addr.add_lit, Nat.zero_add, hv1.cell]; simpa [enC] using hk)
      (fun k hk => by rw [enC_length] at hk; exact (cellN W1 _ _ ho1 (by omega)).1) (fun k hk => by rw [enC_length] at hk; exact (cellN W1 _ _ ho1 (by omega)).2) (enC_one e)
  obtain ⟨ho2, hg2⟩ := own_setM (enC e) _ (i * 3) W1 ho1
  obtain ⟨W2, hW2⟩ : ∃ W2, W1.setCells w.heap.size (i * 3) (enC e) = W2 := ⟨_, rfl⟩
  rw [hW2] at hE1 ho2 hg2
  have hne : g ≠ w.heap.size := by omega
  have hsz1 : w.heap.size < W1.heap.size := by
    obtain ⟨_, _, _, cu, hcu, _⟩ := own_block ho1
    exact (Array.getElem?_eq_some_iff.1 hcu).1
  have hcur2 : W2.heap[g]? = some (.cells cur 27 (0, 0)) := (hg2.block g (by omega) (by intro h; injection h with h; omega)).trans hcur1
  have hdl : (enVs (l.drop i)).length = (c - i) * 3 := by rw [enVs_length, List.length_drop, hl]
  have ho2d : W2.drew.ownsRow base 27 3 (.slice (some ⟨w.heap.size, 0, none⟩) (c + 1) G) (c + 1) _ := own_drew ho2
  have hE2 : (Builtin.copy_ #[32, 32] 3 #[.slice (some ⟨w.heap.size, (i + 1) * 3, none⟩) (c - i) (G - (i + 1)), .slice (some ⟨g, i * 3, none⟩) (c - i) (c - i)]).run Try.prog W2.drew = .ok (goInt (Nat.min (c - i) (c - i))) (W2.drew.setCells w.heap.size ((i + 1) * 3) (enVs (l.drop i))) :=
    run_copy_rows W2.drew _ _ _ 27 i0 3 w.heap.size ((i + 1) * 3) _ _ ⟨g, i * 3, none⟩ _ (c - i) (enVs (l.drop i)) Try.underlying32 hi0 hz1 (by rw [hdl]; simp only [Nat.min_def]; split <;> omega)
      (fun k v hk => by
        rw [Addr.add_lit]
        rw [← enVs_drop, List.getElem?_drop] at hk
        rw [cell_of_row W2.drew g _ cur _ (0, 0) hcur2, ← Array.getElem?_toList]
        rw [← htake, List.getElem?_take] at hk
        split at hk
        · exact hk
        · cases hk)
      (fun k hk => (cellN W2.drew _ _ ho2d (by omega)).1) (fun k hk => (cellN W2.drew _ _ ho2d (by omega)).2) (enVs_one _)
  obtain ⟨ho3, hg3⟩ := own_setM (enVs (l.drop i)) _ ((i + 1) * 3) W2.drew ho2d
  obtain ⟨W3, hW3⟩ : ∃ W3, W2.drew.setCells w.heap.size ((i + 1) * 3) (enVs (l.drop i)) = W3 := ⟨_, rfl⟩
  rw [hW3] at hE2 ho3 hg3
  have hlist : setM (setM (enVs (l.take i) ++ (Builtin.zeroCells (Value.agg #[.int .i64 0, .int .i64 0, .int .i64 0]).cells (c + 1 - i)).toList) (i * 3) (enC e)) ((i + 1) * 3) (enVs (l.drop i)) = enVs (l.take i ++ e :: l.drop i) := by
    have hzl : (Builtin.zeroCells (Value.agg #[.int .i64 0, .int .i64 0, .int .i64 0]).cells (c + 1 - i)).toList.length = (c + 1 - i) * 3 := by simp [Builtin.zeroCells, Value.cells]
    generalize (Builtin.zeroCells (Value.agg #[.int .i64 0, .int .i64 0, .int .i64 0]).cells (c + 1 - i)).toList = zs at hzl
    have htl : (enVs (l.take i)).length = i * 3 := by rw [enVs_length, List.length_take, hl]; omega
    have h1 : setM (enVs (l.take i) ++ zs) (i * 3) (enC e) = enVs (l.take i) ++ enC e ++ zs.drop 3 := by
      rw [setM_eq _ _ _ (by rw [List.length_append, htl, hzl, enC_length]; omega), enC_length, List.take_left' htl]
      congr 1
      rw [List.drop_append, htl, List.drop_of_length_le (by rw [htl]; omega), List.nil_append]
      congr 1
      omega
    have hpl : (enVs (l.take i) ++ enC e).length = (i + 1) * 3 := by rw [List.length_append, htl, enC_length]; omega
    rw [h1, setM_eq _ _ _ (by rw [List.length_append, hpl, List.length_drop, hzl, hdl]; omega), List.take_left' hpl]
    rw [show List.drop ((i + 1) * 3 + (enVs (l.drop i)).length) (enVs (l.take i) ++ enC e ++ zs.drop 3) = [] from List.drop_of_length_le (by rw [List.length_append, hpl, List.length_drop, hzl, hdl]; omega), List.append_nil]
    rw [enVs_append, enVs_cons, List.append_assoc]
  rw [hlist] at ho3
  have hgf : w.grownBy W3 none :=
    ⟨hg3.os.trans (hg2.os.trans hb1.os), hg3.tape.trans (hg2.tape.trans hb1.tape), hg3.output.trans (hg2.output.trans hb1.output), Nat.le_trans hb1.size (Nat.le_trans hg2.size hg3.size), fun k hk _ =>
      (hg3.block k (Nat.lt_of_lt_of_le hk (Nat.le_trans hb1.size hg2.size)) (by intro h; injection h with h; omega)).trans ((hg2.block k (Nat.lt_of_lt_of_le hk hb1.size) (by intro h; injection h with h; omega)).trans (hb1.block k hk))⟩
  have Ho3 := Lib.hid ho3; have Hgf := Lib.hid hgf
  have hRZ := hrz 32
  have hw1 : IntKind.i64.wrap ((i : Int) + 1) = (i : Int) + 1 := by rw [IntKind.wrap_i64]; omega
  have hb1' : (0 : Int) ≤ (i : Int) + 1 := by omega
  have htn : ((i : Int) + 1).toNat = i + 1 := by omega
  have hG1 : ¬ (G = i + 1) := by omega
  have hG2 : ¬ (G = i) := by omega
  have hb3 : (i : Int) ≤ (c : Int) + 1 := by omega
  have hb4 : ¬ (c = i) := by omega
  have hin : i ≤ c := by omega
  have hGx : G ≤ 9223372036854775807 := by simpa [maxLen] using hGm
  clear hown hv hcur hcs htake hrow hold hkk hik hG hW1 hrz ho1 hb1 hv1 hcur1 hrow1 cellN ho2 hg2 hW2 hcur2 ho2d ho3 hg3 hW3 hlist hgf hdl hGm hcm hnc
  go_enter Try.func36, Try.ntmps36
  go_wp2_with (first
    | (at_builtin; refine Lib.wpList_append_run _ rfl _ _ _ _ rfl _ _ rfl rfl _ _ hRZ ?_)
    | (at_builtin; refine wpList_copy_runI _ rfl _ _ 32 32 rfl _ _ rfl rfl hE1 ?_))
  go_region_law (refine step_copy_runI rfl _ _ 32 32 rfl (.slice (some ⟨w.heap.size, (i + 1) * 3, none⟩) (c - i) (G - (i + 1))) (.slice (some ⟨g, i * 3, none⟩) (c - i) (c - i)) (by simp [Act.eval, Act.put]) (by simp [Act.eval, Act.put]) hE2 ?_)
  go_wp2_with fail
  go_ret
  exact ⟨_, rfl, Ho3.out, Hgf.out, rfl⟩

theorem grown_any {w w' : World} {r : Option Nat} (h : w.grownBy w' none) : w.grownBy w' r :=
  ⟨h.os, h.tape, h.output, h.size, fun k hk _ => h.block k hk (by simp)⟩

/-- slices.Insert of one entry at a place of the row. -/
theorem insert_any (base i n vb : Nat) (v : Value) (l : List En) (e : En) (w : World) (hown : w.ownsRow base 27 3 v n (enVs l)) (hv : BlkIs w vb 27 #[.int .i64 e.1, .int .i64 e.2.1, .int .i64 e.2.2]) (hvg : some vb ≠ v.ownBlock)
    (hi : i ≤ n) (hn : n ≤ 1000000) (hb : base ≤ w.heap.size) :
    Calls Try.prog 36 #[v, .int .i64 i, .slice (some ⟨vb, 0, none⟩) 1 1] w fun x w' => ∃ v', x = .returned v' ∧
      w'.ownsRow base 27 3 v' (n + 1) (enVs (l.take i ++ e :: l.drop i)) ∧ w.grownBy w' v.ownBlock ∧ (v'.ownBlock = v.ownBlock ∨ v'.ownBlock = some w.heap.size) := by
  have hl : l.length = n := by
    have := hown.1
    rw [enVs_length] at this
    omega
  rcases hown.2 with ⟨rfl, rfl⟩ | ⟨g, c, cur, rfl, _⟩
  · obtain rfl : i = 0 := by omega
    obtain rfl : l = [] := List.length_eq_zero_iff.1 hl
    exact insert_nil base vb e w hv hb
  · by_cases hin : i = n
    · subst hin
      refine (insert_end base i c vb _ l e w hown hv hn hb).mono ?_
      rintro x w' ⟨v', rfl, h1, h2, h3⟩
      refine ⟨v', rfl, ?_, h2, h3⟩
      rw [← hl, List.take_length, List.drop_length]
      rw [← hl] at h1
      exact h1
    · by_cases hc : n + 1 ≤ c
      · refine (insert_room base g n c i vb l e w hown hv (by intro h; exact hvg (by simp [Value.ownBlock, h])) (by omega) hn hc).mono ?_
        rintro x w' ⟨rfl, h1, h2⟩
        exact ⟨_, rfl, h1, h2, .inl rfl⟩
      · refine (insert_grow base g n c i vb l e w hown hv (by omega) hn (by omega) hb).mono ?_
        rintro x w' ⟨v', rfl, h1, h2, h3⟩
        exact ⟨v', rfl, h1, grown_any h2, .inr h3⟩
end Go.Proofs.Ytfjilngofdahgaa
