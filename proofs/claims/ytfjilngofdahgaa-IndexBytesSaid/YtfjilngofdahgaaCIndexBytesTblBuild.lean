/- chapter 13: right, Build. -/
import Derived.Test.YtfjilngofdahgaaCIndexBytesTblLaw
import Derived.Test.YtfjilngofdahgaaJIndexBytes2
import Derived.Test.YtfjilngofdahgaaCIndexBytesCheck
import Derived.Test.YtfjilngofdahgaaCIndexBytesOutS
import Derived.Deep.RegionHeld3
import Derived.Test.YtfjilngofdahgaaManual
import Derived.IntWalk

namespace Go.Proofs.Ytfjilngofdahgaa
open Go.RowKit
set_option maxHeartbeats 8000000
set_option maxRecDepth 100000
set_option linter.unusedVariables false

theorem rightE_any (e : En) (w : World) : Calls Try.prog 71 #[enA e] w fun x w' => x = .returned (.bool (rightE e)) ∧ Below w.heap.size w w' := by
  obtain ⟨a, b, c⟩ := e
  have hb0 : Below w.heap.size w (w.alloc (.cells #[.int .i64 a, .int .i64 b, .int .i64 c] 27)) := (Below.refl _ _).alloc (Nat.le_refl _) _
  have Hb := Lib.hid hb0; clear hb0
  unfold enA
  dsimp only
  go_enter Try.func71, Try.ntmps71
  go_wp2_with fail
  all_goals
    go_ret
    refine ⟨congrArg (fun b => Ending.returned (Value.bool b)) (show _ = rightE (a, b, c) from ?_), Hb.out⟩
    unfold rightE
    dsimp only
    rw [Bool.eq_iff_iff]
    simp only [decide_eq_true_eq, Bool.false_eq_true, false_iff, true_iff, Bool.and_eq_true]
    omega

/-- the first k may be laid -/
def upT (l : List En) (k : Nat) : Prop := (∀ (j : Nat) (x : En), j < k → l[j]? = some x → rightE x = true) ∧ ∀ (j : Nat) (x y : En), j + 1 < k → l[j]? = some x → l[j + 1]? = some y → ltE x y = true
theorem upT_all {l : List En} (h : upT l l.length) : mayT l = true := by
  unfold mayT
  rw [Bool.and_eq_true, List.all_eq_true, decide_eq_true_eq]
  refine ⟨fun x hx => ?_, sorted_adj fun i x y hx hy => h.2 i x y (List.getElem?_eq_some_iff.1 hy).1 hx hy⟩
  obtain ⟨j, hj⟩ := List.getElem?_of_mem hx
  exact h.1 j x (List.getElem?_eq_some_iff.1 hj).1 hj
theorem mayT_right {l : List En} {k : Nat} {x : En} (hx : l[k]? = some x) (h : rightE x = false) : mayT l = false := by
  cases hm : mayT l with
  | false => rfl
  | true =>
    unfold mayT at hm
    rw [Bool.and_eq_true, List.all_eq_true] at hm
    have := hm.1 x (List.mem_of_getElem? hx)
    rw [h] at this; cases this
theorem mayT_order {l : List En} {k : Nat} {x y : En} (hx : l[k]? = some x) (hy : l[k + 1]? = some y) (h : ltE x y = false) : mayT l = false := by
  cases hm : mayT l with
  | false => rfl
  | true =>
    unfold mayT at hm
    rw [Bool.and_eq_true, decide_eq_true_eq] at hm
    have := sorted_next hm.2 hx hy
    rw [h] at this; cases this
theorem upT_succ {l : List En} {k : Nat} {x : En} (h : upT l k) (hx : l[k]? = some x) (hr : rightE x = true) (ho : ∀ y, 0 < k → l[k - 1]? = some y → ltE y x = true) : upT l (k + 1) := by
  refine ⟨fun j y hj hy => ?_, fun j y z hj hy hz => ?_⟩
  · by_cases e : j = k
    · subst e; rw [hx] at hy; injection hy with hy; rw [← hy]; exact hr
    · exact h.1 j y (by omega) hy
  · by_cases e : j + 1 = k
    · subst e
      rw [hx] at hz; injection hz with hz
      rw [← hz]; exact ho y (by omega) (by simpa using hy)
    · exact h.2 j y z (by omega) hy hz

theorem build_any (A : Option Addr) (n c B : Nat) (l : List En) (w : World) (hr : SlR w B 3 A n (enVs l)) (hB : B ≤ w.heap.size) (hn : n ≤ 1000000) :
    Calls Try.prog 52 #[.slice A n c] w fun x w' => x = .returned (.tuple #[.string ⟨(buildT l).1.toArray⟩, .int .i64 (buildT l).2]) ∧ Below w.heap.size w w' := by
  have hl : l.length = n := by have := hr.len; rw [enVs_length] at this; omega
  have Hr := Lib.hid hr; have Hl := Lib.hid hl
  clear hr hl
  have ho0 := out_new w
  have hb0 : Below w.heap.size w (w.alloc (.cells #[.slice none 0 0, .int .i64 0] 80)) := (Below.refl _ _).alloc (Nat.le_refl _) _
  have Ho0 := Lib.hid ho0; have Hb0 := Lib.hid hb0
  clear ho0 hb0
  go_enter Try.func52, Try.ntmps52
  go_wp2_with fail
  refine (u32_ok w.heap.size w.heap.size n [] _ Ho0.out (by simp) (by simp) (by omega)).mono ?_
  rintro e w1 ⟨rfl, ho1, hb1⟩
  have Ho1 := Lib.hid ho1
  have Hb1 := Lib.hid (Hb0.out.trans hb1)
  clear ho1 hb1
  go_wp2_with fail
  go_loopw [14] (fun i wr => ∃ k : Nat, k ≤ n ∧ i = .int .i64 (k : Int) ∧ Hid (OutIs wr w.heap.size w.heap.size (beBytes 4 n ++ entsL (l.take k)) 0 ∧ upT l k ∧ Below w.heap.size w wr)) (fun i _ => n - (intOf i).toNat)
  case atStart => exact ⟨0, Nat.zero_le _, rfl, Lib.hid ⟨by simpa [entsL] using Ho1.out, ⟨fun j x h => absurd h (by omega), fun j x y h => absurd h (by omega)⟩, Hb1.out⟩⟩
  case round =>
    obtain ⟨k, hk, rfl, HI⟩ := hrel
    have hk0 : 0 ≤ (k : Int) := by omega
    by_cases hlt : k < n
    · obtain ⟨ad, x, rfl, had, hx, hat⟩ := (Hr.out.below (HI.out.2.2.mono hB)).en (k := k) (by omega)
      have Hx := Lib.hid hx
      obtain ⟨x0, x1, x2⟩ := x
      obtain ⟨a0, a1, a2⟩ := id hat
      dsimp only at a0 a1 a2
      have hlt1 : (k : Int) < (n : Int) := by omega
      have hk9 : (k : Int) ≤ 1000000 := by omega
      obtain ⟨V, hV⟩ : ∃ V, wr.alloc (.cells #[.int .i64 x0, .int .i64 x1, .int .i64 x2] 27) = V := ⟨_, rfl⟩
      have hE : BlkIs V wr.heap.size 27 #[.int .i64 x0, .int .i64 x1, .int .i64 x2] := by rw [← hV]; exact BlkIs.new _ _ _
      have hbV : Below wr.heap.size wr V := by rw [← hV]; exact (Below.refl _ _).alloc (Nat.le_refl _) _
      have hS0 : ∀ wx, Below V.heap.size V wx → wx.cell? ⟨wr.heap.size, 0, none⟩ = some (.int .i64 x0) ∧ wx.cell? ⟨wr.heap.size, 1, none⟩ = some (.int .i64 x1) ∧ wx.cell? ⟨wr.heap.size, 2, none⟩ = some (.int .i64 x2) := fun wx h => by
        have f := (hE.below h hE.lt).cell
        exact ⟨f 0, f 1, f 2⟩
      have hright := fun w => rightE_any (x0, x1, x2) w
      have HS := Lib.hid hS0; have HbV := Lib.hid hbV; have HE := Lib.hid hE
      clear hat hx hS0 hbV hE
      have HB := Below.refl V.heap.size V
      have hS := HS.out _ HB
      unfold enA at hright
      dsimp only at hright
      cases hre : rightE (x0, x1, x2) with
      | false =>
        rw [hre] at hright
        have Hright := Lib.hid hright
        have Hno := Lib.hid (buildT_no (mayT_right Hx.out hre))
        clear hright hre
        go_wp2_with fail
        refine wp_region_held_drew (S := (fun wx => wx.cell? ⟨wr.heap.size, 0, none⟩ = some (.int .i64 x0) ∧ wx.cell? ⟨wr.heap.size, 1, none⟩ = some (.int .i64 x1) ∧ wx.cell? ⟨wr.heap.size, 2, none⟩ = some (.int .i64 x2))) (by kernel_rfl) (HS.out _ (below_drewN HB 1)) (fun hHeld => ?_)
        refine take_at 0 (some 19) (v := ?_) rfl (by kernel_rfl) (by kernel_rfl) (by kernel_rfl) (by kernel_rfl) (fun _ _ _ h => h) (Or.inl ⟨by kernel_rfl, ?_⟩) (by assumption) ?_
        rotate_left
        · (intro w hSw; (try dsimp only at hSw); go_simp; try with_reducible rfl)
        try simp only [Act.put, List.setIfInBounds_toArray, List.set_cons_zero, List.set_cons_succ]
        refine wpAnyH_ready (rs := [1]) (by kernel_rfl) (by simp) ?_
        refine AllReadyH.cons rfl (fun K hK => ?_) AllReadyH.nil
        go_simp
        refine (Hright.out _).mono ?_; rintro e wx ⟨rfl, hb⟩; have HB := HB.trans ((by first | exact hb | exact below_undrew hb : Below _ _ _).mono HB.size)
        first | (refine hK.out _ _ (HS.out _ HB) (fun hHeld => ?_)) | (go_wp2_with fail; refine hK.out _ _ (HS.out _ HB) (fun hHeld => ?_))
        clear hK K
        try simp only [Act.put, List.setIfInBounds_toArray, List.set_cons_zero, List.set_cons_succ]
        refine take_at 2 (some 21) (v := ?_) rfl (by kernel_rfl) (by kernel_rfl) (by kernel_rfl) (by kernel_rfl) (fun _ _ _ h => h) (Or.inl ⟨by kernel_rfl, ?_⟩) (by assumption) ?_
        rotate_left
        · (intro w hSw; (try dsimp only at hSw); go_simp; try with_reducible rfl)
        try simp only [Act.put, List.setIfInBounds_toArray, List.set_cons_zero, List.set_cons_succ]
        refine take_at 3 (some 22) (v := ?_) rfl (by kernel_rfl) (by kernel_rfl) (by kernel_rfl) (by kernel_rfl) (fun _ _ _ h => h) (Or.inl ⟨by kernel_rfl, ?_⟩) (by assumption) ?_
        rotate_left
        · (intro w hSw; (try dsimp only at hSw); go_simp; try with_reducible rfl)
        try simp only [Act.put, List.setIfInBounds_toArray, List.set_cons_zero, List.set_cons_succ]
        refine take_at 4 (some 23) (v := undef) rfl (by kernel_rfl) (by kernel_rfl) (by kernel_rfl) (by kernel_rfl) (fun _ _ _ h => h) (Or.inr ⟨by kernel_rfl, rfl⟩) (by assumption) ?_
        try simp only [Act.put, List.setIfInBounds_toArray, List.set_cons_zero, List.set_cons_succ]
        refine take_at 5 (some 24) (v := undef) rfl (by kernel_rfl) (by kernel_rfl) (by kernel_rfl) (by kernel_rfl) (fun _ _ _ h => h) (Or.inr ⟨by kernel_rfl, rfl⟩) (by assumption) ?_
        try simp only [Act.put, List.setIfInBounds_toArray, List.set_cons_zero, List.set_cons_succ]
        refine take_at 6 (some 25) (v := undef) rfl (by kernel_rfl) (by kernel_rfl) (by kernel_rfl) (by kernel_rfl) (fun _ _ _ h => h) (Or.inr ⟨by kernel_rfl, rfl⟩) (by assumption) ?_
        try simp only [Act.put, List.setIfInBounds_toArray, List.set_cons_zero, List.set_cons_succ]
        refine take_at 7 (some 26) (v := undef) rfl (by kernel_rfl) (by kernel_rfl) (by kernel_rfl) (by kernel_rfl) (fun _ _ _ h => h) (Or.inr ⟨by kernel_rfl, rfl⟩) (by assumption) ?_
        try simp only [Act.put, List.setIfInBounds_toArray, List.set_cons_zero, List.set_cons_succ]
        refine take_at 8 (some 27) (v := undef) rfl (by kernel_rfl) (by kernel_rfl) (by kernel_rfl) (by kernel_rfl) (fun _ _ _ h => h) (Or.inr ⟨by kernel_rfl, rfl⟩) (by assumption) ?_
        try simp only [Act.put, List.setIfInBounds_toArray, List.set_cons_zero, List.set_cons_succ]
        refine take_at 9 (some 28) (v := undef) rfl (by kernel_rfl) (by kernel_rfl) (by kernel_rfl) (by kernel_rfl) (fun _ _ _ h => h) (Or.inr ⟨by kernel_rfl, rfl⟩) (by assumption) ?_
        try simp only [Act.put, List.setIfInBounds_toArray, List.set_cons_zero, List.set_cons_succ]
        refine take_at 10 (some 29) (v := undef) rfl (by kernel_rfl) (by kernel_rfl) (by kernel_rfl) (by kernel_rfl) (fun _ _ _ h => h) (Or.inr ⟨by kernel_rfl, rfl⟩) (by assumption) ?_
        try simp only [Act.put, List.setIfInBounds_toArray, List.set_cons_zero, List.set_cons_succ]
        refine take_at 11 (some 30) (v := undef) rfl (by kernel_rfl) (by kernel_rfl) (by kernel_rfl) (by kernel_rfl) (fun _ _ _ h => h) (Or.inr ⟨by kernel_rfl, rfl⟩) (by assumption) ?_
        try simp only [Act.put, List.setIfInBounds_toArray, List.set_cons_zero, List.set_cons_succ]
        refine take_at 12 (some 31) (v := undef) rfl (by kernel_rfl) (by kernel_rfl) (by kernel_rfl) (by kernel_rfl) (fun _ _ _ h => h) (Or.inr ⟨by kernel_rfl, rfl⟩) (by assumption) ?_
        try simp only [Act.put, List.setIfInBounds_toArray, List.set_cons_zero, List.set_cons_succ]
        refine take_at 13 (some 32) (v := undef) rfl (by kernel_rfl) (by kernel_rfl) (by kernel_rfl) (by kernel_rfl) (fun _ _ _ h => h) (Or.inr ⟨by kernel_rfl, rfl⟩) (by assumption) ?_
        try simp only [Act.put, List.setIfInBounds_toArray, List.set_cons_zero, List.set_cons_succ]
        refine take_at 14 (some 33) (v := undef) rfl (by kernel_rfl) (by kernel_rfl) (by kernel_rfl) (by kernel_rfl) (fun _ _ _ h => h) (Or.inr ⟨by kernel_rfl, rfl⟩) (by assumption) ?_
        try simp only [Act.put, List.setIfInBounds_toArray, List.set_cons_zero, List.set_cons_succ]
        refine take_at 15 (some 34) (v := undef) rfl (by kernel_rfl) (by kernel_rfl) (by kernel_rfl) (by kernel_rfl) (fun _ _ _ h => h) (Or.inr ⟨by kernel_rfl, rfl⟩) (by assumption) ?_
        try simp only [Act.put, List.setIfInBounds_toArray, List.set_cons_zero, List.set_cons_succ]
        refine take_at 16 (some 35) (v := ?_) rfl (by kernel_rfl) (by kernel_rfl) (by kernel_rfl) (by kernel_rfl) (fun _ _ _ h => h) (Or.inl ⟨by kernel_rfl, ?_⟩) (by assumption) ?_
        rotate_left
        · (intro w hSw; (try dsimp only at hSw); go_simp; try with_reducible rfl)
        try simp only [Act.put, List.setIfInBounds_toArray, List.set_cons_zero, List.set_cons_succ]
        refine wpAnyH_done (by kernel_rfl) ?_ _
        have HbF := Lib.hid (HI.out.2.2.trans ((HbV.out.trans (HB.mono HbV.out.size)).mono HI.out.2.2.size))
        go_wp2_with fail
        go_ret2
        exact ⟨by rw [Hno.out]; rfl, HbF.out⟩
      | true =>
        rw [hre] at hright
        have Hright := Lib.hid hright
        have Hre := Lib.hid hre
        clear hright hre
        by_cases h0 : k = 0
        · have hd6 : decide (0 < (k : Int)) = false := by simp; omega
          have hd6' : decide (0 < k) = false := by simp; omega
          have Hor : Hid (∀ y, 0 < k → l[k - 1]? = some y → ltE y (x0, x1, x2) = true) := Lib.hid (fun y h => by omega)
          clear h0
          go_wp2_with fail
          refine wp_region_held_drew (S := (fun wx => wx.cell? ⟨wr.heap.size, 0, none⟩ = some (.int .i64 x0) ∧ wx.cell? ⟨wr.heap.size, 1, none⟩ = some (.int .i64 x1) ∧ wx.cell? ⟨wr.heap.size, 2, none⟩ = some (.int .i64 x2))) (by kernel_rfl) (HS.out _ (below_drewN HB 1)) (fun hHeld => ?_)
          refine take_at 0 (some 19) (v := ?_) rfl (by kernel_rfl) (by kernel_rfl) (by kernel_rfl) (by kernel_rfl) (fun _ _ _ h => h) (Or.inl ⟨by kernel_rfl, ?_⟩) (by assumption) ?_
          rotate_left
          · (intro w hSw; (try dsimp only at hSw); go_simp; try with_reducible rfl)
          try simp only [Act.put, List.setIfInBounds_toArray, List.set_cons_zero, List.set_cons_succ]
          refine wpAnyH_ready (rs := [1]) (by kernel_rfl) (by simp) ?_
          refine AllReadyH.cons rfl (fun K hK => ?_) AllReadyH.nil
          go_simp
          refine (Hright.out _).mono ?_; rintro e wx ⟨rfl, hb⟩; have HB := HB.trans ((by first | exact hb | exact below_undrew hb : Below _ _ _).mono HB.size)
          first | (refine hK.out _ _ (HS.out _ HB) (fun hHeld => ?_)) | (go_wp2_with fail; refine hK.out _ _ (HS.out _ HB) (fun hHeld => ?_))
          clear hK K
          try simp only [Act.put, List.setIfInBounds_toArray, List.set_cons_zero, List.set_cons_succ]
          refine take_at 2 (some 21) (v := ?_) rfl (by kernel_rfl) (by kernel_rfl) (by kernel_rfl) (by kernel_rfl) (fun _ _ _ h => h) (Or.inl ⟨by kernel_rfl, ?_⟩) (by assumption) ?_
          rotate_left
          · (intro w hSw; (try dsimp only at hSw); go_simp; try with_reducible rfl)
          try simp only [Act.put, List.setIfInBounds_toArray, List.set_cons_zero, List.set_cons_succ]
          refine take_at 3 (some 22) (v := ?_) rfl (by kernel_rfl) (by kernel_rfl) (by kernel_rfl) (by kernel_rfl) (fun _ _ _ h => h) (Or.inl ⟨by kernel_rfl, ?_⟩) (by assumption) ?_
          rotate_left
          · (intro w hSw; (try dsimp only at hSw); go_simp; try with_reducible rfl)
          try simp only [Act.put, List.setIfInBounds_toArray, List.set_cons_zero, List.set_cons_succ]
          refine take_at 4 (some 23) (v := ?_) rfl (by kernel_rfl) (by kernel_rfl) (by kernel_rfl) (by kernel_rfl) (fun _ _ _ h => h) (Or.inl ⟨by kernel_rfl, ?_⟩) (by assumption) ?_
          rotate_left
          · (intro w hSw; (try dsimp only at hSw); go_simp; try with_reducible rfl)
          try simp only [Act.put, List.setIfInBounds_toArray, List.set_cons_zero, List.set_cons_succ]
          refine take_at 5 (some 24) (v := ?_) rfl (by kernel_rfl) (by kernel_rfl) (by kernel_rfl) (by kernel_rfl) (fun _ _ _ h => h) (Or.inl ⟨by kernel_rfl, ?_⟩) (by assumption) ?_
          rotate_left
          · (intro w hSw; (try dsimp only at hSw); go_simp; try with_reducible rfl)
          try simp only [Act.put, List.setIfInBounds_toArray, List.set_cons_zero, List.set_cons_succ]
          refine take_at 6 (some 25) (v := ?_) rfl (by kernel_rfl) (by kernel_rfl) (by kernel_rfl) (by kernel_rfl) (fun _ _ _ h => h) (Or.inl ⟨by kernel_rfl, ?_⟩) (by assumption) ?_
          rotate_left
          · (intro w hSw; (try dsimp only at hSw); go_simp; try with_reducible rfl)
          try simp only [Act.put, List.setIfInBounds_toArray, List.set_cons_zero, List.set_cons_succ]
          refine take_at 7 (some 26) (v := undef) rfl (by kernel_rfl) (by kernel_rfl) (by kernel_rfl) (by kernel_rfl) (fun _ _ _ h => h) (Or.inr ⟨by kernel_rfl, rfl⟩) (by assumption) ?_
          try simp only [Act.put, List.setIfInBounds_toArray, List.set_cons_zero, List.set_cons_succ]
          refine take_at 8 (some 27) (v := undef) rfl (by kernel_rfl) (by kernel_rfl) (by kernel_rfl) (by kernel_rfl) (fun _ _ _ h => h) (Or.inr ⟨by kernel_rfl, rfl⟩) (by assumption) ?_
          try simp only [Act.put, List.setIfInBounds_toArray, List.set_cons_zero, List.set_cons_succ]
          refine take_at 9 (some 28) (v := undef) rfl (by kernel_rfl) (by kernel_rfl) (by kernel_rfl) (by kernel_rfl) (fun _ _ _ h => h) (Or.inr ⟨by kernel_rfl, rfl⟩) (by assumption) ?_
          try simp only [Act.put, List.setIfInBounds_toArray, List.set_cons_zero, List.set_cons_succ]
          refine take_at 10 (some 29) (v := undef) rfl (by kernel_rfl) (by kernel_rfl) (by kernel_rfl) (by kernel_rfl) (fun _ _ _ h => h) (Or.inr ⟨by kernel_rfl, rfl⟩) (by assumption) ?_
          try simp only [Act.put, List.setIfInBounds_toArray, List.set_cons_zero, List.set_cons_succ]
          refine take_at 11 (some 30) (v := undef) rfl (by kernel_rfl) (by kernel_rfl) (by kernel_rfl) (by kernel_rfl) (fun _ _ _ h => h) (Or.inr ⟨by kernel_rfl, rfl⟩) (by assumption) ?_
          try simp only [Act.put, List.setIfInBounds_toArray, List.set_cons_zero, List.set_cons_succ]
          refine take_at 12 (some 31) (v := undef) rfl (by kernel_rfl) (by kernel_rfl) (by kernel_rfl) (by kernel_rfl) (fun _ _ _ h => h) (Or.inr ⟨by kernel_rfl, rfl⟩) (by assumption) ?_
          try simp only [Act.put, List.setIfInBounds_toArray, List.set_cons_zero, List.set_cons_succ]
          refine take_at 13 (some 32) (v := undef) rfl (by kernel_rfl) (by kernel_rfl) (by kernel_rfl) (by kernel_rfl) (fun _ _ _ h => h) (Or.inr ⟨by kernel_rfl, rfl⟩) (by assumption) ?_
          try simp only [Act.put, List.setIfInBounds_toArray, List.set_cons_zero, List.set_cons_succ]
          refine take_at 14 (some 33) (v := undef) rfl (by kernel_rfl) (by kernel_rfl) (by kernel_rfl) (by kernel_rfl) (fun _ _ _ h => h) (Or.inr ⟨by kernel_rfl, rfl⟩) (by assumption) ?_
          try simp only [Act.put, List.setIfInBounds_toArray, List.set_cons_zero, List.set_cons_succ]
          refine take_at 15 (some 34) (v := ?_) rfl (by kernel_rfl) (by kernel_rfl) (by kernel_rfl) (by kernel_rfl) (fun _ _ _ h => h) (Or.inl ⟨by kernel_rfl, ?_⟩) (by assumption) ?_
          rotate_left
          · (intro w hSw; (try dsimp only at hSw); go_simp; try with_reducible rfl)
          try simp only [Act.put, List.setIfInBounds_toArray, List.set_cons_zero, List.set_cons_succ]
          refine take_at 16 (some 35) (v := ?_) rfl (by kernel_rfl) (by kernel_rfl) (by kernel_rfl) (by kernel_rfl) (fun _ _ _ h => h) (Or.inl ⟨by kernel_rfl, ?_⟩) (by assumption) ?_
          rotate_left
          · (intro w hSw; (try dsimp only at hSw); go_simp; try with_reducible rfl)
          try simp only [Act.put, List.setIfInBounds_toArray, List.set_cons_zero, List.set_cons_succ]
          refine wpAnyH_done (by kernel_rfl) ?_ _
          have HW := Lib.hid (HbV.out.trans (HB.mono HbV.out.size))
          have hO : OutIs wx w.heap.size w.heap.size (beBytes 4 n ++ entsL (l.take k)) 0 := HI.out.1.under HW.out (Nat.le_refl _)
          have hEx := HE.out.below HB HE.out.lt
          have hbx : w.heap.size ≤ wx.heap.size := Nat.le_trans HI.out.2.2.size HW.out.size
          have hS8 : ∀ wy, OutStep w.heap.size wx wy → wy.cell? ⟨wr.heap.size, 0, none⟩ = some (.int .i64 x0) ∧ wy.cell? ⟨wr.heap.size, 1, none⟩ = some (.int .i64 x1) ∧ wy.cell? ⟨wr.heap.size, 2, none⟩ = some (.int .i64 x2) := fun wy h => by
            have f := (hEx.typ h (by decide) (by decide)).cell
            exact ⟨f 0, f 1, f 2⟩
          have HSS := Lib.hid hS8
          have hbl : (beBytes 4 n ++ entsL (l.take k)).length ≤ 500000000 := by rw [List.length_append, beBytes_length, entsL_length, List.length_take]; omega
          have HU := Lib.hid HI.out.2.1
          have HBw := Lib.hid (HI.out.2.2.trans (HW.out.mono HI.out.2.2.size))
          obtain ⟨b0, hb00⟩ : ∃ b0, b0 = beBytes 4 n ++ entsL (l.take k) := ⟨_, rfl⟩
          rw [← hb00] at hO hbl
          have Hb00 := Lib.hid hb00
          have HO := Lib.hid hO
          have HT := OutStep.refl w.heap.size wx
          clear hO hb00 hS8 hEx HI HW HS hS HB hHeld
          go_wp2_with fail
          refine wp_region_held_drew (S := (fun wz => wz.cell? ⟨wr.heap.size, 0, none⟩ = some (.int .i64 x0) ∧ wz.cell? ⟨wr.heap.size, 1, none⟩ = some (.int .i64 x1) ∧ wz.cell? ⟨wr.heap.size, 2, none⟩ = some (.int .i64 x2))) (by kernel_rfl) (HSS.out _ (OutStep.of_below (below_drewN (Below.refl _ _) 1) hbx)) (fun hHeld => ?_)
          refine take_at 0 (some 36) (v := ?_) rfl (by kernel_rfl) (by kernel_rfl) (by kernel_rfl) (by kernel_rfl) (fun _ _ _ h => h) (Or.inl ⟨by kernel_rfl, ?_⟩) (by assumption) ?_
          rotate_left
          · (intro w hSw; (try dsimp only at hSw); go_simp; try with_reducible rfl)
          try simp only [Act.put, List.setIfInBounds_toArray, List.set_cons_zero, List.set_cons_succ]
          refine take_at 1 (some 37) (v := ?_) rfl (by kernel_rfl) (by kernel_rfl) (by kernel_rfl) (by kernel_rfl) (fun _ _ _ h => h) (Or.inl ⟨by kernel_rfl, ?_⟩) (by assumption) ?_
          rotate_left
          · (intro w hSw; (try dsimp only at hSw); go_simp; try with_reducible rfl)
          try simp only [Act.put, List.setIfInBounds_toArray, List.set_cons_zero, List.set_cons_succ]
          refine take_at 3 (some 39) (v := ?_) rfl (by kernel_rfl) (by kernel_rfl) (by kernel_rfl) (by kernel_rfl) (fun _ _ _ h => h) (Or.inl ⟨by kernel_rfl, ?_⟩) (by assumption) ?_
          rotate_left
          · (intro w hSw; (try dsimp only at hSw); go_simp; try with_reducible rfl)
          try simp only [Act.put, List.setIfInBounds_toArray, List.set_cons_zero, List.set_cons_succ]
          refine take_at 4 (some 40) (v := ?_) rfl (by kernel_rfl) (by kernel_rfl) (by kernel_rfl) (by kernel_rfl) (fun _ _ _ h => h) (Or.inl ⟨by kernel_rfl, ?_⟩) (by assumption) ?_
          rotate_left
          · (intro w hSw; (try dsimp only at hSw); go_simp; try with_reducible rfl)
          try simp only [Act.put, List.setIfInBounds_toArray, List.set_cons_zero, List.set_cons_succ]
          refine take_at 6 (some 42) (v := ?_) rfl (by kernel_rfl) (by kernel_rfl) (by kernel_rfl) (by kernel_rfl) (fun _ _ _ h => h) (Or.inl ⟨by kernel_rfl, ?_⟩) (by assumption) ?_
          rotate_left
          · (intro w hSw; (try dsimp only at hSw); go_simp; try with_reducible rfl)
          try simp only [Act.put, List.setIfInBounds_toArray, List.set_cons_zero, List.set_cons_succ]
          refine take_at 7 (some 43) (v := ?_) rfl (by kernel_rfl) (by kernel_rfl) (by kernel_rfl) (by kernel_rfl) (fun _ _ _ h => h) (Or.inl ⟨by kernel_rfl, ?_⟩) (by assumption) ?_
          rotate_left
          · (intro w hSw; (try dsimp only at hSw); go_simp; try with_reducible rfl)
          try simp only [Act.put, List.setIfInBounds_toArray, List.set_cons_zero, List.set_cons_succ]
          refine wpAnyH_ready (rs := [2]) (by kernel_rfl) (by simp) ?_
          refine AllReadyH.cons rfl (fun K hK => ?_) AllReadyH.nil
          go_simp
          refine (i64_t _ _ _ _ _ (by first | exact HO.out | exact HO.out.drewd) (by first | exact Nat.le_trans hbx HT.bel.size | exact hbx) (by first | omega | (simp only [List.length_append, be64_length]; omega))).mono ?_; rintro e wy ⟨rfl, ho, hb⟩; have HO := Lib.hid ho; have HT := (by first | exact HT.trans hb | exact (HT.trans (OutStep.of_below (below_drewN (Below.refl _ _) 1) hbx)).trans hb : OutStep w.heap.size wx _); clear ho hb
          first | (refine hK.out _ _ (HSS.out _ HT) (fun hHeld => ?_)) | (go_wp2_with fail; refine hK.out _ _ (HSS.out _ HT) (fun hHeld => ?_))
          clear hK K
          try simp only [Act.put, List.setIfInBounds_toArray, List.set_cons_zero, List.set_cons_succ]
          refine wpAnyH_ready (rs := [5]) (by kernel_rfl) (by simp) ?_
          refine AllReadyH.cons rfl (fun K hK => ?_) AllReadyH.nil
          go_simp
          refine (i64_t _ _ _ _ _ (by first | exact HO.out | exact HO.out.drewd) (by first | exact Nat.le_trans hbx HT.bel.size | exact hbx) (by first | omega | (simp only [List.length_append, be64_length]; omega))).mono ?_; rintro e wy ⟨rfl, ho, hb⟩; have HO := Lib.hid ho; have HT := (by first | exact HT.trans hb | exact (HT.trans (OutStep.of_below (below_drewN (Below.refl _ _) 1) hbx)).trans hb : OutStep w.heap.size wx _); clear ho hb
          first | (refine hK.out _ _ (HSS.out _ HT) (fun hHeld => ?_)) | (go_wp2_with fail; refine hK.out _ _ (HSS.out _ HT) (fun hHeld => ?_))
          clear hK K
          try simp only [Act.put, List.setIfInBounds_toArray, List.set_cons_zero, List.set_cons_succ]
          refine wpAnyH_ready (rs := [8]) (by kernel_rfl) (by simp) ?_
          refine AllReadyH.cons rfl (fun K hK => ?_) AllReadyH.nil
          go_simp
          refine (i64_t _ _ _ _ _ (by first | exact HO.out | exact HO.out.drewd) (by first | exact Nat.le_trans hbx HT.bel.size | exact hbx) (by first | omega | (simp only [List.length_append, be64_length]; omega))).mono ?_; rintro e wy ⟨rfl, ho, hb⟩; have HO := Lib.hid ho; have HT := (by first | exact HT.trans hb | exact (HT.trans (OutStep.of_below (below_drewN (Below.refl _ _) 1) hbx)).trans hb : OutStep w.heap.size wx _); clear ho hb
          first | (refine hK.out _ _ (HSS.out _ HT) (fun hHeld => ?_)) | (go_wp2_with fail; refine hK.out _ _ (HSS.out _ HT) (fun hHeld => ?_))
          clear hK K
          try simp only [Act.put, List.setIfInBounds_toArray, List.set_cons_zero, List.set_cons_succ]
          refine wpAnyH_done (by kernel_rfl) ?_ _
          have HTT := Lib.hid HT
          clear HT
          go_wp2_with fail
          refine ⟨⟨k + 1, by omega, by simp, Lib.hid ⟨?_, upT_succ HU.out Hx.out Hre.out (fun y h hy => Hor.out y h hy), HBw.out.trans HTT.out.bel⟩⟩, by simp [intOf]; omega⟩
          have h := HO.out
          rw [Hb00.out] at h
          rw [entsL_take l k _ Hx.out]
          simpa [entL, List.append_assoc] using h
        · have hd6 : decide (0 < (k : Int)) = true := by simp; omega
          have hd6' : decide (0 < k) = true := by simp; omega
          have hk1 : k - 1 < n := by omega
          obtain ⟨ad2, ⟨y0, y1, y2⟩, had2, _, hy, _⟩ := (Hr.out.below (HI.out.2.2.mono hB)).en hk1
          clear had2
          have Hy := Lib.hid hy
          clear hy
          have hS1 : ∀ wx, Below V.heap.size V wx → wx.cell? ⟨wr.heap.size, 0, none⟩ = some (.int .i64 x0) ∧ wx.cell? ⟨wr.heap.size, 1, none⟩ = some (.int .i64 x1) ∧ wx.cell? ⟨wr.heap.size, 2, none⟩ = some (.int .i64 x2) ∧ wx.cell? (ad.add ((k - 1) * 3)) = some (.int .i64 y0) ∧ wx.cell? ⟨(ad.add ((k - 1) * 3)).block, (ad.add ((k - 1) * 3)).off + 1, none⟩ = some (.int .i64 y1) ∧ wx.cell? ⟨(ad.add ((k - 1) * 3)).block, (ad.add ((k - 1) * 3)).off + 2, none⟩ = some (.int .i64 y2) := fun wx h => by
            obtain ⟨a0, a1, a2⟩ := HS.out _ h
            obtain ⟨ad2, y, had2, _, hy, b0, b1, b2⟩ := (Hr.out.below ((HI.out.2.2.trans ((HbV.out.trans (h.mono HbV.out.size)).mono HI.out.2.2.size)).mono hB)).en hk1
            injection had2 with had2
            subst had2
            rw [Hy.out] at hy
            injection hy with hy
            subst hy
            exact ⟨a0, a1, a2, b0, b1, b2⟩
          have HS1 := Lib.hid hS1
          have hi1 : (k : Int) - 1 = ((k - 1 : Nat) : Int) := by omega
          have hi0 : 0 < k := by omega
          have hw1 : IntKind.i64.wrap ((k : Int) - 1) = ((k - 1 : Nat) : Int) := by rw [IntWalk.i64_in _ (by omega)]; omega
          have hl1 : ((k - 1 : Nat) : Int) < (n : Int) := by omega
          have hl0 : 0 ≤ ((k - 1 : Nat) : Int) := by omega
          have hw2 : IntKind.i64.wrap ((k - 1 : Nat) : Int) = ((k - 1 : Nat) : Int) := IntWalk.i64_in _ (by omega)
          have hless := fun w => less_any (y0, y1, y2) (x0, x1, x2) w
          unfold enA at hless
          dsimp only at hless
          clear hS1 h0
          have HB := Below.refl V.heap.size V
          cases hlt6 : ltE (y0, y1, y2) (x0, x1, x2) with
          | false =>
            rw [hlt6] at hless
            have Hless := Lib.hid hless
            have Hno := Lib.hid (buildT_no (mayT_order Hy.out (by rw [show k - 1 + 1 = k from by omega]; exact Hx.out) hlt6))
            clear hless hlt6
            go_wp2_with fail
            refine wp_region_held_drew (S := (fun wx => wx.cell? ⟨wr.heap.size, 0, none⟩ = some (.int .i64 x0) ∧ wx.cell? ⟨wr.heap.size, 1, none⟩ = some (.int .i64 x1) ∧ wx.cell? ⟨wr.heap.size, 2, none⟩ = some (.int .i64 x2) ∧ wx.cell? (ad.add ((k - 1) * 3)) = some (.int .i64 y0) ∧ wx.cell? ⟨(ad.add ((k - 1) * 3)).block, (ad.add ((k - 1) * 3)).off + 1, none⟩ = some (.int .i64 y1) ∧ wx.cell? ⟨(ad.add ((k - 1) * 3)).block, (ad.add ((k - 1) * 3)).off + 2, none⟩ = some (.int .i64 y2))) (by kernel_rfl) (HS1.out _ (below_drewN HB 1)) (fun hHeld => ?_)
            refine take_at 0 (some 19) (v := ?_) rfl (by kernel_rfl) (by kernel_rfl) (by kernel_rfl) (by kernel_rfl) (fun _ _ _ h => h) (Or.inl ⟨by kernel_rfl, ?_⟩) (by assumption) ?_
            rotate_left
            · (intro w hSw; (try dsimp only at hSw); go_simp; try with_reducible rfl)
            try simp only [Act.put, List.setIfInBounds_toArray, List.set_cons_zero, List.set_cons_succ]
            refine wpAnyH_ready (rs := [1]) (by kernel_rfl) (by simp) ?_
            refine AllReadyH.cons rfl (fun K hK => ?_) AllReadyH.nil
            go_simp
            refine (Hright.out _).mono ?_; rintro e wx ⟨rfl, hb⟩; have HB := HB.trans ((by first | exact hb | exact below_undrew hb : Below _ _ _).mono HB.size)
            first | (refine hK.out _ _ (HS1.out _ HB) (fun hHeld => ?_)) | (go_wp2_with fail; refine hK.out _ _ (HS1.out _ HB) (fun hHeld => ?_))
            clear hK K
            try simp only [Act.put, List.setIfInBounds_toArray, List.set_cons_zero, List.set_cons_succ]
            refine take_at 2 (some 21) (v := ?_) rfl (by kernel_rfl) (by kernel_rfl) (by kernel_rfl) (by kernel_rfl) (fun _ _ _ h => h) (Or.inl ⟨by kernel_rfl, ?_⟩) (by assumption) ?_
            rotate_left
            · (intro w hSw; (try dsimp only at hSw); go_simp; try with_reducible rfl)
            try simp only [Act.put, List.setIfInBounds_toArray, List.set_cons_zero, List.set_cons_succ]
            refine take_at 3 (some 22) (v := ?_) rfl (by kernel_rfl) (by kernel_rfl) (by kernel_rfl) (by kernel_rfl) (fun _ _ _ h => h) (Or.inl ⟨by kernel_rfl, ?_⟩) (by assumption) ?_
            rotate_left
            · (intro w hSw; (try dsimp only at hSw); go_simp; try with_reducible rfl)
            try simp only [Act.put, List.setIfInBounds_toArray, List.set_cons_zero, List.set_cons_succ]
            refine take_at 4 (some 23) (v := ?_) rfl (by kernel_rfl) (by kernel_rfl) (by kernel_rfl) (by kernel_rfl) (fun _ _ _ h => h) (Or.inl ⟨by kernel_rfl, ?_⟩) (by assumption) ?_
            rotate_left
            · (intro w hSw; (try dsimp only at hSw); go_simp; try with_reducible rfl)
            try simp only [Act.put, List.setIfInBounds_toArray, List.set_cons_zero, List.set_cons_succ]
            refine take_at 5 (some 24) (v := ?_) rfl (by kernel_rfl) (by kernel_rfl) (by kernel_rfl) (by kernel_rfl) (fun _ _ _ h => h) (Or.inl ⟨by kernel_rfl, ?_⟩) (by assumption) ?_
            rotate_left
            · (intro w hSw; (try dsimp only at hSw); go_simp; try with_reducible rfl)
            try simp only [Act.put, List.setIfInBounds_toArray, List.set_cons_zero, List.set_cons_succ]
            refine take_at 6 (some 25) (v := ?_) rfl (by kernel_rfl) (by kernel_rfl) (by kernel_rfl) (by kernel_rfl) (fun _ _ _ h => h) (Or.inl ⟨by kernel_rfl, ?_⟩) (by assumption) ?_
            rotate_left
            · (intro w hSw; (try dsimp only at hSw); go_simp; try with_reducible rfl)
            try simp only [Act.put, List.setIfInBounds_toArray, List.set_cons_zero, List.set_cons_succ]
            refine take_at 7 (some 26) (v := ?_) rfl (by kernel_rfl) (by kernel_rfl) (by kernel_rfl) (by kernel_rfl) (fun _ _ _ h => h) (Or.inl ⟨by kernel_rfl, ?_⟩) (by assumption) ?_
            rotate_left
            · (intro w hSw; (try dsimp only at hSw); go_simp; try with_reducible rfl)
            try simp only [Act.put, List.setIfInBounds_toArray, List.set_cons_zero, List.set_cons_succ]
            refine take_at 8 (some 27) (v := ?_) rfl (by kernel_rfl) (by kernel_rfl) (by kernel_rfl) (by kernel_rfl) (fun _ _ _ h => h) (Or.inl ⟨by kernel_rfl, ?_⟩) (by assumption) ?_
            rotate_left
            · (intro w hSw; (try dsimp only at hSw); go_simp; try with_reducible rfl)
            try simp only [Act.put, List.setIfInBounds_toArray, List.set_cons_zero, List.set_cons_succ]
            refine take_at 9 (some 28) (v := ?_) rfl (by kernel_rfl) (by kernel_rfl) (by kernel_rfl) (by kernel_rfl) (fun _ _ _ h => h) (Or.inl ⟨by kernel_rfl, ?_⟩) (by assumption) ?_
            rotate_left
            · (intro w hSw; (try dsimp only at hSw); go_simp; try with_reducible rfl)
            try simp only [Act.put, List.setIfInBounds_toArray, List.set_cons_zero, List.set_cons_succ]
            refine take_at 10 (some 29) (v := ?_) rfl (by kernel_rfl) (by kernel_rfl) (by kernel_rfl) (by kernel_rfl) (fun _ _ _ h => h) (Or.inl ⟨by kernel_rfl, ?_⟩) (by assumption) ?_
            rotate_left
            · (intro w hSw; (try dsimp only at hSw); go_simp; try with_reducible rfl)
            try simp only [Act.put, List.setIfInBounds_toArray, List.set_cons_zero, List.set_cons_succ]
            refine take_at 11 (some 30) (v := ?_) rfl (by kernel_rfl) (by kernel_rfl) (by kernel_rfl) (by kernel_rfl) (fun _ _ _ h => h) (Or.inl ⟨by kernel_rfl, ?_⟩) (by assumption) ?_
            rotate_left
            · (intro w hSw; (try dsimp only at hSw); go_simp; try with_reducible rfl)
            try simp only [Act.put, List.setIfInBounds_toArray, List.set_cons_zero, List.set_cons_succ]
            refine take_at 12 (some 31) (v := ?_) rfl (by kernel_rfl) (by kernel_rfl) (by kernel_rfl) (by kernel_rfl) (fun _ _ _ h => h) (Or.inl ⟨by kernel_rfl, ?_⟩) (by assumption) ?_
            rotate_left
            · (intro w hSw; (try dsimp only at hSw); go_simp; try with_reducible rfl)
            try simp only [Act.put, List.setIfInBounds_toArray, List.set_cons_zero, List.set_cons_succ]
            refine wpAnyH_ready (rs := [13]) (by kernel_rfl) (by simp) ?_
            refine AllReadyH.cons rfl (fun K hK => ?_) AllReadyH.nil
            go_simp
            refine (Hless.out _).mono ?_; rintro e wx ⟨rfl, hb⟩; have HB := HB.trans ((by first | exact hb | exact below_undrew hb : Below _ _ _).mono HB.size)
            first | (refine hK.out _ _ (HS1.out _ HB) (fun hHeld => ?_)) | (go_wp2_with fail; refine hK.out _ _ (HS1.out _ HB) (fun hHeld => ?_))
            clear hK K
            try simp only [Act.put, List.setIfInBounds_toArray, List.set_cons_zero, List.set_cons_succ]
            refine take_at 14 (some 33) (v := ?_) rfl (by kernel_rfl) (by kernel_rfl) (by kernel_rfl) (by kernel_rfl) (fun _ _ _ h => h) (Or.inl ⟨by kernel_rfl, ?_⟩) (by assumption) ?_
            rotate_left
            · (intro w hSw; (try dsimp only at hSw); go_simp; try with_reducible rfl)
            try simp only [Act.put, List.setIfInBounds_toArray, List.set_cons_zero, List.set_cons_succ]
            refine take_at 15 (some 34) (v := ?_) rfl (by kernel_rfl) (by kernel_rfl) (by kernel_rfl) (by kernel_rfl) (fun _ _ _ h => h) (Or.inl ⟨by kernel_rfl, ?_⟩) (by assumption) ?_
            rotate_left
            · (intro w hSw; (try dsimp only at hSw); go_simp; try with_reducible rfl)
            try simp only [Act.put, List.setIfInBounds_toArray, List.set_cons_zero, List.set_cons_succ]
            refine take_at 16 (some 35) (v := ?_) rfl (by kernel_rfl) (by kernel_rfl) (by kernel_rfl) (by kernel_rfl) (fun _ _ _ h => h) (Or.inl ⟨by kernel_rfl, ?_⟩) (by assumption) ?_
            rotate_left
            · (intro w hSw; (try dsimp only at hSw); go_simp; try with_reducible rfl)
            try simp only [Act.put, List.setIfInBounds_toArray, List.set_cons_zero, List.set_cons_succ]
            refine wpAnyH_done (by kernel_rfl) ?_ _
            have HbF := Lib.hid (HI.out.2.2.trans ((HbV.out.trans (HB.mono HbV.out.size)).mono HI.out.2.2.size))
            go_wp2_with fail
            go_ret2
            exact ⟨by rw [Hno.out]; rfl, HbF.out⟩
          | true =>
            rw [hlt6] at hless
            have Hless := Lib.hid hless
            have Hor : Hid (∀ y, 0 < k → l[k - 1]? = some y → ltE y (x0, x1, x2) = true) := Lib.hid (fun y _ hy => by rw [Hy.out] at hy; injection hy with hy; rw [← hy]; exact hlt6)
            clear hless hlt6
            go_wp2_with fail
            refine wp_region_held_drew (S := (fun wx => wx.cell? ⟨wr.heap.size, 0, none⟩ = some (.int .i64 x0) ∧ wx.cell? ⟨wr.heap.size, 1, none⟩ = some (.int .i64 x1) ∧ wx.cell? ⟨wr.heap.size, 2, none⟩ = some (.int .i64 x2) ∧ wx.cell? (ad.add ((k - 1) * 3)) = some (.int .i64 y0) ∧ wx.cell? ⟨(ad.add ((k - 1) * 3)).block, (ad.add ((k - 1) * 3)).off + 1, none⟩ = some (.int .i64 y1) ∧ wx.cell? ⟨(ad.add ((k - 1) * 3)).block, (ad.add ((k - 1) * 3)).off + 2, none⟩ = some (.int .i64 y2))) (by kernel_rfl) (HS1.out _ (below_drewN HB 1)) (fun hHeld => ?_)
            refine take_at 0 (some 19) (v := ?_) rfl (by kernel_rfl) (by kernel_rfl) (by kernel_rfl) (by kernel_rfl) (fun _ _ _ h => h) (Or.inl ⟨by kernel_rfl, ?_⟩) (by assumption) ?_
            rotate_left
            · (intro w hSw; (try dsimp only at hSw); go_simp; try with_reducible rfl)
            try simp only [Act.put, List.setIfInBounds_toArray, List.set_cons_zero, List.set_cons_succ]
            refine wpAnyH_ready (rs := [1]) (by kernel_rfl) (by simp) ?_
            refine AllReadyH.cons rfl (fun K hK => ?_) AllReadyH.nil
            go_simp
            refine (Hright.out _).mono ?_; rintro e wx ⟨rfl, hb⟩; have HB := HB.trans ((by first | exact hb | exact below_undrew hb : Below _ _ _).mono HB.size)
            first | (refine hK.out _ _ (HS1.out _ HB) (fun hHeld => ?_)) | (go_wp2_with fail; refine hK.out _ _ (HS1.out _ HB) (fun hHeld => ?_))
            clear hK K
            try simp only [Act.put, List.setIfInBounds_toArray, List.set_cons_zero, List.set_cons_succ]
            refine take_at 2 (some 21) (v := ?_) rfl (by kernel_rfl) (by kernel_rfl) (by kernel_rfl) (by kernel_rfl) (fun _ _ _ h => h) (Or.inl ⟨by kernel_rfl, ?_⟩) (by assumption) ?_
            rotate_left
            · (intro w hSw; (try dsimp only at hSw); go_simp; try with_reducible rfl)
            try simp only [Act.put, List.setIfInBounds_toArray, List.set_cons_zero, List.set_cons_succ]
            refine take_at 3 (some 22) (v := ?_) rfl (by kernel_rfl) (by kernel_rfl) (by kernel_rfl) (by kernel_rfl) (fun _ _ _ h => h) (Or.inl ⟨by kernel_rfl, ?_⟩) (by assumption) ?_
            rotate_left
            · (intro w hSw; (try dsimp only at hSw); go_simp; try with_reducible rfl)
            try simp only [Act.put, List.setIfInBounds_toArray, List.set_cons_zero, List.set_cons_succ]
            refine take_at 4 (some 23) (v := ?_) rfl (by kernel_rfl) (by kernel_rfl) (by kernel_rfl) (by kernel_rfl) (fun _ _ _ h => h) (Or.inl ⟨by kernel_rfl, ?_⟩) (by assumption) ?_
            rotate_left
            · (intro w hSw; (try dsimp only at hSw); go_simp; try with_reducible rfl)
            try simp only [Act.put, List.setIfInBounds_toArray, List.set_cons_zero, List.set_cons_succ]
            refine take_at 5 (some 24) (v := ?_) rfl (by kernel_rfl) (by kernel_rfl) (by kernel_rfl) (by kernel_rfl) (fun _ _ _ h => h) (Or.inl ⟨by kernel_rfl, ?_⟩) (by assumption) ?_
            rotate_left
            · (intro w hSw; (try dsimp only at hSw); go_simp; try with_reducible rfl)
            try simp only [Act.put, List.setIfInBounds_toArray, List.set_cons_zero, List.set_cons_succ]
            refine take_at 6 (some 25) (v := ?_) rfl (by kernel_rfl) (by kernel_rfl) (by kernel_rfl) (by kernel_rfl) (fun _ _ _ h => h) (Or.inl ⟨by kernel_rfl, ?_⟩) (by assumption) ?_
            rotate_left
            · (intro w hSw; (try dsimp only at hSw); go_simp; try with_reducible rfl)
            try simp only [Act.put, List.setIfInBounds_toArray, List.set_cons_zero, List.set_cons_succ]
            refine take_at 7 (some 26) (v := ?_) rfl (by kernel_rfl) (by kernel_rfl) (by kernel_rfl) (by kernel_rfl) (fun _ _ _ h => h) (Or.inl ⟨by kernel_rfl, ?_⟩) (by assumption) ?_
            rotate_left
            · (intro w hSw; (try dsimp only at hSw); go_simp; try with_reducible rfl)
            try simp only [Act.put, List.setIfInBounds_toArray, List.set_cons_zero, List.set_cons_succ]
            refine take_at 8 (some 27) (v := ?_) rfl (by kernel_rfl) (by kernel_rfl) (by kernel_rfl) (by kernel_rfl) (fun _ _ _ h => h) (Or.inl ⟨by kernel_rfl, ?_⟩) (by assumption) ?_
            rotate_left
            · (intro w hSw; (try dsimp only at hSw); go_simp; try with_reducible rfl)
            try simp only [Act.put, List.setIfInBounds_toArray, List.set_cons_zero, List.set_cons_succ]
            refine take_at 9 (some 28) (v := ?_) rfl (by kernel_rfl) (by kernel_rfl) (by kernel_rfl) (by kernel_rfl) (fun _ _ _ h => h) (Or.inl ⟨by kernel_rfl, ?_⟩) (by assumption) ?_
            rotate_left
            · (intro w hSw; (try dsimp only at hSw); go_simp; try with_reducible rfl)
            try simp only [Act.put, List.setIfInBounds_toArray, List.set_cons_zero, List.set_cons_succ]
            refine take_at 10 (some 29) (v := ?_) rfl (by kernel_rfl) (by kernel_rfl) (by kernel_rfl) (by kernel_rfl) (fun _ _ _ h => h) (Or.inl ⟨by kernel_rfl, ?_⟩) (by assumption) ?_
            rotate_left
            · (intro w hSw; (try dsimp only at hSw); go_simp; try with_reducible rfl)
            try simp only [Act.put, List.setIfInBounds_toArray, List.set_cons_zero, List.set_cons_succ]
            refine take_at 11 (some 30) (v := ?_) rfl (by kernel_rfl) (by kernel_rfl) (by kernel_rfl) (by kernel_rfl) (fun _ _ _ h => h) (Or.inl ⟨by kernel_rfl, ?_⟩) (by assumption) ?_
            rotate_left
            · (intro w hSw; (try dsimp only at hSw); go_simp; try with_reducible rfl)
            try simp only [Act.put, List.setIfInBounds_toArray, List.set_cons_zero, List.set_cons_succ]
            refine take_at 12 (some 31) (v := ?_) rfl (by kernel_rfl) (by kernel_rfl) (by kernel_rfl) (by kernel_rfl) (fun _ _ _ h => h) (Or.inl ⟨by kernel_rfl, ?_⟩) (by assumption) ?_
            rotate_left
            · (intro w hSw; (try dsimp only at hSw); go_simp; try with_reducible rfl)
            try simp only [Act.put, List.setIfInBounds_toArray, List.set_cons_zero, List.set_cons_succ]
            refine wpAnyH_ready (rs := [13]) (by kernel_rfl) (by simp) ?_
            refine AllReadyH.cons rfl (fun K hK => ?_) AllReadyH.nil
            go_simp
            refine (Hless.out _).mono ?_; rintro e wx ⟨rfl, hb⟩; have HB := HB.trans ((by first | exact hb | exact below_undrew hb : Below _ _ _).mono HB.size)
            first | (refine hK.out _ _ (HS1.out _ HB) (fun hHeld => ?_)) | (go_wp2_with fail; refine hK.out _ _ (HS1.out _ HB) (fun hHeld => ?_))
            clear hK K
            try simp only [Act.put, List.setIfInBounds_toArray, List.set_cons_zero, List.set_cons_succ]
            refine take_at 14 (some 33) (v := ?_) rfl (by kernel_rfl) (by kernel_rfl) (by kernel_rfl) (by kernel_rfl) (fun _ _ _ h => h) (Or.inl ⟨by kernel_rfl, ?_⟩) (by assumption) ?_
            rotate_left
            · (intro w hSw; (try dsimp only at hSw); go_simp; try with_reducible rfl)
            try simp only [Act.put, List.setIfInBounds_toArray, List.set_cons_zero, List.set_cons_succ]
            refine take_at 15 (some 34) (v := ?_) rfl (by kernel_rfl) (by kernel_rfl) (by kernel_rfl) (by kernel_rfl) (fun _ _ _ h => h) (Or.inl ⟨by kernel_rfl, ?_⟩) (by assumption) ?_
            rotate_left
            · (intro w hSw; (try dsimp only at hSw); go_simp; try with_reducible rfl)
            try simp only [Act.put, List.setIfInBounds_toArray, List.set_cons_zero, List.set_cons_succ]
            refine take_at 16 (some 35) (v := ?_) rfl (by kernel_rfl) (by kernel_rfl) (by kernel_rfl) (by kernel_rfl) (fun _ _ _ h => h) (Or.inl ⟨by kernel_rfl, ?_⟩) (by assumption) ?_
            rotate_left
            · (intro w hSw; (try dsimp only at hSw); go_simp; try with_reducible rfl)
            try simp only [Act.put, List.setIfInBounds_toArray, List.set_cons_zero, List.set_cons_succ]
            refine wpAnyH_done (by kernel_rfl) ?_ _
            have HW := Lib.hid (HbV.out.trans (HB.mono HbV.out.size))
            have hO : OutIs wx w.heap.size w.heap.size (beBytes 4 n ++ entsL (l.take k)) 0 := HI.out.1.under HW.out (Nat.le_refl _)
            have hEx := HE.out.below HB HE.out.lt
            have hbx : w.heap.size ≤ wx.heap.size := Nat.le_trans HI.out.2.2.size HW.out.size
            have hS8 : ∀ wy, OutStep w.heap.size wx wy → wy.cell? ⟨wr.heap.size, 0, none⟩ = some (.int .i64 x0) ∧ wy.cell? ⟨wr.heap.size, 1, none⟩ = some (.int .i64 x1) ∧ wy.cell? ⟨wr.heap.size, 2, none⟩ = some (.int .i64 x2) := fun wy h => by
              have f := (hEx.typ h (by decide) (by decide)).cell
              exact ⟨f 0, f 1, f 2⟩
            have HSS := Lib.hid hS8
            have hbl : (beBytes 4 n ++ entsL (l.take k)).length ≤ 500000000 := by rw [List.length_append, beBytes_length, entsL_length, List.length_take]; omega
            have HU := Lib.hid HI.out.2.1
            have HBw := Lib.hid (HI.out.2.2.trans (HW.out.mono HI.out.2.2.size))
            obtain ⟨b0, hb00⟩ : ∃ b0, b0 = beBytes 4 n ++ entsL (l.take k) := ⟨_, rfl⟩
            rw [← hb00] at hO hbl
            have Hb00 := Lib.hid hb00
            have HO := Lib.hid hO
            have HT := OutStep.refl w.heap.size wx
            clear hO hb00 hS8 hEx HI HW HS hS HB hHeld
            go_wp2_with fail
            refine wp_region_held_drew (S := (fun wz => wz.cell? ⟨wr.heap.size, 0, none⟩ = some (.int .i64 x0) ∧ wz.cell? ⟨wr.heap.size, 1, none⟩ = some (.int .i64 x1) ∧ wz.cell? ⟨wr.heap.size, 2, none⟩ = some (.int .i64 x2))) (by kernel_rfl) (HSS.out _ (OutStep.of_below (below_drewN (Below.refl _ _) 1) hbx)) (fun hHeld => ?_)
            refine take_at 0 (some 36) (v := ?_) rfl (by kernel_rfl) (by kernel_rfl) (by kernel_rfl) (by kernel_rfl) (fun _ _ _ h => h) (Or.inl ⟨by kernel_rfl, ?_⟩) (by assumption) ?_
            rotate_left
            · (intro w hSw; (try dsimp only at hSw); go_simp; try with_reducible rfl)
            try simp only [Act.put, List.setIfInBounds_toArray, List.set_cons_zero, List.set_cons_succ]
            refine take_at 1 (some 37) (v := ?_) rfl (by kernel_rfl) (by kernel_rfl) (by kernel_rfl) (by kernel_rfl) (fun _ _ _ h => h) (Or.inl ⟨by kernel_rfl, ?_⟩) (by assumption) ?_
            rotate_left
            · (intro w hSw; (try dsimp only at hSw); go_simp; try with_reducible rfl)
            try simp only [Act.put, List.setIfInBounds_toArray, List.set_cons_zero, List.set_cons_succ]
            refine take_at 3 (some 39) (v := ?_) rfl (by kernel_rfl) (by kernel_rfl) (by kernel_rfl) (by kernel_rfl) (fun _ _ _ h => h) (Or.inl ⟨by kernel_rfl, ?_⟩) (by assumption) ?_
            rotate_left
            · (intro w hSw; (try dsimp only at hSw); go_simp; try with_reducible rfl)
            try simp only [Act.put, List.setIfInBounds_toArray, List.set_cons_zero, List.set_cons_succ]
            refine take_at 4 (some 40) (v := ?_) rfl (by kernel_rfl) (by kernel_rfl) (by kernel_rfl) (by kernel_rfl) (fun _ _ _ h => h) (Or.inl ⟨by kernel_rfl, ?_⟩) (by assumption) ?_
            rotate_left
            · (intro w hSw; (try dsimp only at hSw); go_simp; try with_reducible rfl)
            try simp only [Act.put, List.setIfInBounds_toArray, List.set_cons_zero, List.set_cons_succ]
            refine take_at 6 (some 42) (v := ?_) rfl (by kernel_rfl) (by kernel_rfl) (by kernel_rfl) (by kernel_rfl) (fun _ _ _ h => h) (Or.inl ⟨by kernel_rfl, ?_⟩) (by assumption) ?_
            rotate_left
            · (intro w hSw; (try dsimp only at hSw); go_simp; try with_reducible rfl)
            try simp only [Act.put, List.setIfInBounds_toArray, List.set_cons_zero, List.set_cons_succ]
            refine take_at 7 (some 43) (v := ?_) rfl (by kernel_rfl) (by kernel_rfl) (by kernel_rfl) (by kernel_rfl) (fun _ _ _ h => h) (Or.inl ⟨by kernel_rfl, ?_⟩) (by assumption) ?_
            rotate_left
            · (intro w hSw; (try dsimp only at hSw); go_simp; try with_reducible rfl)
            try simp only [Act.put, List.setIfInBounds_toArray, List.set_cons_zero, List.set_cons_succ]
            refine wpAnyH_ready (rs := [2]) (by kernel_rfl) (by simp) ?_
            refine AllReadyH.cons rfl (fun K hK => ?_) AllReadyH.nil
            go_simp
            refine (i64_t _ _ _ _ _ (by first | exact HO.out | exact HO.out.drewd) (by first | exact Nat.le_trans hbx HT.bel.size | exact hbx) (by first | omega | (simp only [List.length_append, be64_length]; omega))).mono ?_; rintro e wy ⟨rfl, ho, hb⟩; have HO := Lib.hid ho; have HT := (by first | exact HT.trans hb | exact (HT.trans (OutStep.of_below (below_drewN (Below.refl _ _) 1) hbx)).trans hb : OutStep w.heap.size wx _); clear ho hb
            first | (refine hK.out _ _ (HSS.out _ HT) (fun hHeld => ?_)) | (go_wp2_with fail; refine hK.out _ _ (HSS.out _ HT) (fun hHeld => ?_))
            clear hK K
            try simp only [Act.put, List.setIfInBounds_toArray, List.set_cons_zero, List.set_cons_succ]
            refine wpAnyH_ready (rs := [5]) (by kernel_rfl) (by simp) ?_
            refine AllReadyH.cons rfl (fun K hK => ?_) AllReadyH.nil
            go_simp
            refine (i64_t _ _ _ _ _ (by first | exact HO.out | exact HO.out.drewd) (by first | exact Nat.le_trans hbx HT.bel.size | exact hbx) (by first | omega | (simp only [List.length_append, be64_length]; omega))).mono ?_; rintro e wy ⟨rfl, ho, hb⟩; have HO := Lib.hid ho; have HT := (by first | exact HT.trans hb | exact (HT.trans (OutStep.of_below (below_drewN (Below.refl _ _) 1) hbx)).trans hb : OutStep w.heap.size wx _); clear ho hb
            first | (refine hK.out _ _ (HSS.out _ HT) (fun hHeld => ?_)) | (go_wp2_with fail; refine hK.out _ _ (HSS.out _ HT) (fun hHeld => ?_))
            clear hK K
            try simp only [Act.put, List.setIfInBounds_toArray, List.set_cons_zero, List.set_cons_succ]
            refine wpAnyH_ready (rs := [8]) (by kernel_rfl) (by simp) ?_
            refine AllReadyH.cons rfl (fun K hK => ?_) AllReadyH.nil
            go_simp
            refine (i64_t _ _ _ _ _ (by first | exact HO.out | exact HO.out.drewd) (by first | exact Nat.le_trans hbx HT.bel.size | exact hbx) (by first | omega | (simp only [List.length_append, be64_length]; omega))).mono ?_; rintro e wy ⟨rfl, ho, hb⟩; have HO := Lib.hid ho; have HT := (by first | exact HT.trans hb | exact (HT.trans (OutStep.of_below (below_drewN (Below.refl _ _) 1) hbx)).trans hb : OutStep w.heap.size wx _); clear ho hb
            first | (refine hK.out _ _ (HSS.out _ HT) (fun hHeld => ?_)) | (go_wp2_with fail; refine hK.out _ _ (HSS.out _ HT) (fun hHeld => ?_))
            clear hK K
            try simp only [Act.put, List.setIfInBounds_toArray, List.set_cons_zero, List.set_cons_succ]
            refine wpAnyH_done (by kernel_rfl) ?_ _
            have HTT := Lib.hid HT
            clear HT
            go_wp2_with fail
            refine ⟨⟨k + 1, by omega, by simp, Lib.hid ⟨?_, upT_succ HU.out Hx.out Hre.out (fun y h hy => Hor.out y h hy), HBw.out.trans HTT.out.bel⟩⟩, by simp [intOf]; omega⟩
            have h := HO.out
            rw [Hb00.out] at h
            rw [entsL_take l k _ Hx.out]
            simpa [entL, List.append_assoc] using h
    · obtain rfl : k = n := by omega
      have hd : decide (k < k) = false := by simp
      have Hyes := Lib.hid (buildT_yes (upT_all (by rw [Hl.out]; exact HI.out.2.1)))
      have ho := HI.out.1
      rw [List.take_of_length_le (Nat.le_of_eq Hl.out)] at ho
      have hbl : (beBytes 4 k ++ entsL l).length ≤ 500000000 := by rw [List.length_append, beBytes_length, entsL_length, Hl.out]; omega
      have hb00 : beBytes 4 k ++ entsL l = tblL l := by unfold tblL; rw [Hl.out]
      rw [hb00] at ho hbl
      have HO := Lib.hid ho
      have HBw := Lib.hid HI.out.2.2
      clear ho hb00 HI
      go_wp2_with fail
      refine (done_ok _ _ _ _ HO.out).mono ?_
      rintro e w5 ⟨rfl, rfl⟩
      go_wp2_with fail
      refine (seal_any _ _ ?_).mono ?_
      · rw [ByteArray.size_append]
        show 4 + (tblL l).toArray.size ≤ 1000000000
        rw [List.size_toArray]
        omega
      rintro e w6 ⟨rfl, hb6⟩
      have HBf := Lib.hid (HBw.out.trans (hb6.mono HBw.out.size))
      clear hb6
      go_wp2_with fail
      go_ret2
      refine ⟨?_, HBf.out⟩
      rw [Hyes.out]
      rfl
end Go.Proofs.Ytfjilngofdahgaa
