/- slices.SortFunc of entries, by the shelf's contract. -/
import Derived.Test.YtfkkcgdniepgoaaGreatSortLay
import Derived.Test.YtfkkcgdniepgoaaGreatJTableMerges2
import Derived.Test.YtfkkcgdniepgoaaGreatJTableMerges1

namespace Go.Proofs.YtfkkcgdniepgoaaGreat
open Go.RowKit Go.Shelf Go.Lib
open Go.Sort hiding Below
set_option maxHeartbeats 4000000
set_option maxRecDepth 100000
set_option linter.unusedVariables false

theorem compareK_any (a b : En) (w : World) : Calls Tryz.prog 77 #[enA a, enA b] w fun e w' => e = .returned (.int .i64 (cmpE a b)) ∧ ∃ q os', w' = grow (w.drewN q) os' := by
  obtain ⟨a0, a1, a2⟩ := a
  obtain ⟨b0, b1, b2⟩ := b
  unfold enA cmpE
  dsimp only
  obtain ⟨W, hW⟩ : ∃ W, (w.alloc (.cells #[.int .i64 a0, .int .i64 a1, .int .i64 a2] 53)).alloc (.cells #[.int .i64 b0, .int .i64 b1, .int .i64 b2] 53) = W := ⟨_, rfl⟩
  have hA : BlkIs W w.heap.size 53 #[.int .i64 a0, .int .i64 a1, .int .i64 a2] := by rw [← hW]; exact (BlkIs.new _ _ _).alloc _
  have hB : BlkIs W (w.heap.size + 1) 53 #[.int .i64 b0, .int .i64 b1, .int .i64 b2] := by
    rw [← hW]
    have := BlkIs.new (w.alloc (.cells #[.int .i64 a0, .int .i64 a1, .int .i64 a2] 53)) 53 #[.int .i64 b0, .int .i64 b1, .int .i64 b2]
    simpa using this
  have HW := Lib.hid hW
  have hS0 : ∀ wx, Below W.heap.size W wx → wx.cell? ⟨w.heap.size, 0, none⟩ = some (.int .i64 a0) ∧ wx.cell? ⟨w.heap.size, 1, none⟩ = some (.int .i64 a1) ∧ wx.cell? ⟨w.heap.size, 2, none⟩ = some (.int .i64 a2) ∧ wx.cell? ⟨w.heap.size + 1, 0, none⟩ = some (.int .i64 b0) ∧ wx.cell? ⟨w.heap.size + 1, 1, none⟩ = some (.int .i64 b1) ∧ wx.cell? ⟨w.heap.size + 1, 2, none⟩ = some (.int .i64 b2) := by
    intro wx h
    have f1 := (hA.below h hA.lt).cell; have f2 := (hB.below h hB.lt).cell
    exact ⟨f1 0, f1 1, f1 2, f2 0, f2 1, f2 2⟩
  have HS := Lib.hid hS0
  clear hA hB hS0
  have HB : Below W.heap.size W W := Below.refl _ _
  have hS := HS.out _ HB
  go_enter Tryz.func77, Tryz.ntmps77
  go_wp2_with fail
  go_region_held3 (fun wx => wx.cell? ⟨w.heap.size, 0, none⟩ = some (.int .i64 a0) ∧ wx.cell? ⟨w.heap.size, 1, none⟩ = some (.int .i64 a1) ∧ wx.cell? ⟨w.heap.size, 2, none⟩ = some (.int .i64 a2) ∧ wx.cell? ⟨w.heap.size + 1, 0, none⟩ = some (.int .i64 b0) ∧ wx.cell? ⟨w.heap.size + 1, 1, none⟩ = some (.int .i64 b1) ∧ wx.cell? ⟨w.heap.size + 1, 2, none⟩ = some (.int .i64 b2)) (first | exact hS | go_keep) ((first
    | (go_at_call 112; refine (cmpInt_any _ _ _).mono ?_; rintro e wx ⟨rfl, rfl⟩)
    | (go_at_call 111; refine (or_any _ _ _ _ _ (BlkIs.drew (BlkIs.new _ _ _))).mono ?_; rintro e wx ⟨rfl, rfl⟩)))
  all_goals
    go_wp2_with fail
    go_ret
    exact ⟨rfl, 1, _, by rw [← HW.out, alloc_eq_grow, alloc_eq_grow, alloc_eq_grow, grow_grow, grow_grow, drew_grow]; rfl⟩

theorem cmpLays_en (blk off size : Nat) (w : World) : CmpLays Tryz.prog 77 #[] enC 3 cmpE blk off size w :=
  fun _ _ _ _ x y => compareK_any x y _
theorem ltOf_en (x y : En) : ltOf cmpE x y = ltE x y := cmpE_lt x y
theorem swo_en : SWO (ltOf cmpE) where
  irrefl x := by rw [ltOf_en]; exact ltE_irrefl x
  trans x y z h1 h2 := by rw [ltOf_en] at *; exact ltE_trans h1 h2
  ntrans x y z h1 h2 := by
    rw [ltOf_en] at *
    unfold ltE at *
    rw [decide_eq_false_iff_not] at *
    omega

theorem sortEn_any (base g n cap : Nat) (l : List En) (w : World) (hown : w.ownsRow base 53 3 (.slice (some ⟨g, 0, none⟩) n cap) n (enVs l)) (hn : n ≤ 1000000) :
    Calls Tryz.prog 76 #[.slice (some ⟨g, 0, none⟩) n cap, .func (.func 77) #[] #[]] w fun e w' => e = .returned (.tuple #[]) ∧
      ∃ l', l'.Perm l ∧ OrderE l' ∧ w'.ownsRow base 53 3 (.slice (some ⟨g, 0, none⟩) n cap) n (enVs l') ∧ w.grownBy w' (some g) := by
  have hl : l.length = n := by have := hown.1; rw [enVs_length] at this; omega
  obtain ⟨cur, hbg, hh, hnc, hcm, hcs, htake⟩ : ∃ cur, base ≤ g ∧ w.heap[g]? = some (.cells cur 53) ∧ n ≤ cap ∧ cap ≤ maxLen ∧ cur.size = cap * 3 ∧ cur.toList.take (n * 3) = enVs l := by
    rcases hown.2 with ⟨h0, _⟩ | ⟨g', cap', cur, hv, hb, hh, h1, h2, h3, h4⟩
    · cases h0
    · injection hv with a b c
      injection a with a
      injection a with a
      subst a c
      exact ⟨cur, hb, hh, h1, h2, h3, h4⟩
  have hgl : g < w.heap.size := (Array.getElem?_eq_some_iff.1 hh).1
  have hcell : ∀ t, w.cell? ⟨g, t, none⟩ = cur[t]? := fun t => BlkIs.cell (w := w) (g := g) (t := 53) (cs := cur) hh t
  have hH : HoldsK enC 3 w g 0 l.toArray := by
    intro j hj
    rw [size_flatK] at hj
    have hjn : j < n * 3 := by simpa [hl] using hj
    refine ⟨?_, BlkIs.free (w := w) (g := g) (t := 53) (cs := cur) hh _⟩
    rw [get_flatK _ _ _ _ hj, Nat.zero_add, hcell]
    have h1 : (enVs l)[j]? = cur[j]? := by rw [← htake, List.getElem?_take, if_pos hjn, Array.getElem?_toList]
    obtain ⟨p, hp⟩ : ∃ p, l[j / 3]? = some p := ⟨_, List.getElem?_eq_getElem (by omega)⟩
    have h2 := enVs_get l (j / 3) (j % 3) p hp (Nat.mod_lt _ (by omega))
    rw [show j / 3 * 3 + j % 3 = j from by omega, h1] at h2
    rw [h2]
    have h3 : l.toArray[j / 3]! = p := by
      rw [getElem!_pos l.toArray (j / 3) (by simp; omega)]
      simpa using (List.getElem?_eq_some_iff.1 hp).2
    rw [h3]
    have h4 : j % 3 < (enC p).length := by rw [enC_length]; omega
    simp [List.getElem!_eq_getElem?_getD, List.getElem?_eq_getElem h4]
  have eg : ∀ args w, (callFunc 77 args).run Tryz.prog w = .ok (.enter 77 args) w := enters_of Tryz.func77 (by kernel_rfl) rfl
  have hcon := AnyQ.slices_SortFunc Tryz.sortLay 3 Tryz.isAgg53 Tryz.sizeOf53 enC enC_length enC_one cmpE swo_en 77 #[] g 0 cap l.toArray w eg (cmpLays_en g 0 l.toArray.size w) hH hgl (by simp; omega)
  rw [show l.toArray.size = n from by simpa using hl] at hcon
  refine Calls.mono hcon ?_
  rintro e w' ⟨rfl, d', m, os, ⟨hsz, _, hperm⟩, hsorted, rfl⟩
  have hsz' : d'.size = n := by rw [hsz]; simpa using hl
  have hf : (flatK enC 3 d').size = n * 3 := by rw [size_flatK, hsz']
  have hobj : (sortWorldK enC 3 w g 0 m d' os).heap[g]? = some (.cells (putCells id 0 (flatK enC 3 d') cur) 53) := by
    unfold sortWorldK putRowK putRow mapBlock grow Go.Sort.ahead
    dsimp only
    rw [Array.getElem?_append_left (by simpa using hgl), Array.getElem?_modify, if_pos rfl, hh]
    rfl
  have hget : ∀ t, t < n * 3 → (enVs d'.toList)[t]? = some ((enC d'[t / 3]!)[t % 3]!) := fun t ht => by
    have h3 : t / 3 < d'.size := by omega
    have hp : d'.toList[t / 3]? = some d'[t / 3]! := by rw [Array.getElem?_toList, Array.getElem?_eq_getElem h3, getElem!_pos d' (t / 3) h3]
    have h2 := enVs_get d'.toList (t / 3) (t % 3) _ hp (Nat.mod_lt _ (by omega))
    rw [show t / 3 * 3 + t % 3 = t from by omega] at h2
    rw [h2]
    have h4 : t % 3 < (enC d'[t / 3]!).length := by rw [enC_length]; omega
    simp [List.getElem!_eq_getElem?_getD, List.getElem?_eq_getElem h4]
  refine ⟨rfl, d'.toList, ?_, ?_, ?_, ?_⟩
  · have h1 : d'.extract 0 n = d' := by rw [← hsz']; simp
    have h2 : l.toArray.extract 0 n = l.toArray := by rw [← hl]; simp
    rw [h1, h2] at hperm
    simpa using hperm
  · refine List.pairwise_iff_getElem.2 (fun i j hi hj hij => ?_)
    simp only [Array.length_toList] at hi hj
    have := hsorted i j (Nat.zero_le _) hij (by omega)
    rw [ltOf_en, getElem!_pos d' i hi, getElem!_pos d' j hj] at this
    simpa using this
  · refine ⟨by rw [enVs_length]; simp [hsz'], .inr ⟨g, cap, _, rfl, hbg, hobj, hnc, hcm, by simp [putCells, hcs], ?_⟩⟩
    apply List.ext_getElem?
    intro t
    rw [List.getElem?_take]
    by_cases ht : t < n * 3
    · have htc : t < cur.size := by have := Nat.mul_le_mul_right 3 hnc; omega
      rw [if_pos ht, hget t ht, Array.getElem?_toList]
      simp only [putCells, Array.getElem?_mapIdx, Array.getElem?_eq_getElem htc, Option.map_some]
      rw [if_pos ⟨Nat.zero_le _, by omega⟩, Nat.sub_zero, get_flatK _ _ _ _ (by rw [hsz']; exact ht)]
      rfl
    · rw [if_neg ht, List.getElem?_eq_none (by rw [enVs_length]; simp [hsz']; omega)]
  · refine ⟨rfl, rfl, rfl, ?_, fun k hk hne => ?_⟩
    · unfold sortWorldK putRowK putRow mapBlock grow Go.Sort.ahead
      simp
    · unfold sortWorldK putRowK putRow mapBlock grow Go.Sort.ahead
      dsimp only
      rw [Array.getElem?_append_left (by simpa using hk), Array.getElem?_modify, if_neg (fun e => hne (by rw [e]))]
end Go.Proofs.YtfkkcgdniepgoaaGreat
