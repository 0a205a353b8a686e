/- joined texts. -/
import Derived.Test.YtfkkcgdniepgoaaJTableAsTab7
/- sort.Search with any closure that answers as a threshold does. -/
namespace Go.Proofs.Ytfkkcgdniepgoaa
open Go.RowKit
set_option maxHeartbeats 4000000
set_option maxRecDepth 100000
set_option linter.unusedVariables false

theorem sortSearch_one (c1 c2 : Value) (N r : Nat) (w : World) (hr : r ≤ N) (hN : N ≤ 1000000)
    (hf : ∀ k, k < N → ∀ wx, Below w.heap.size w wx → Calls Try.prog 59 #[.int .i64 (k : Int), c1, c2] wx fun x w' => x = .returned (.bool (decide (r ≤ k))) ∧ Below wx.heap.size wx w') :
    Calls Try.prog 58 #[.int .i64 (N : Int), .func (.func 59) #[] #[c1, c2]] w fun x w' => x = .returned (.int .i64 (r : Int)) ∧ Below w.heap.size w w' := by
  have Hf := Lib.hid hf
  clear hf
  go_enter Try.func58, Try.ntmps58
  go_wp2_with fail
  go_loopw [5, 6] (fun i j wr => ∃ a b : Nat, i = .int .i64 a ∧ j = .int .i64 b ∧ a ≤ r ∧ r ≤ b ∧ b ≤ N ∧ Hid (Below w.heap.size w wr)) (fun i j _ => (intOf j - intOf i).toNat)
  case atStart => exact ⟨0, N, rfl, rfl, by omega, by omega, by omega, Lib.hid (Below.refl _ _)⟩
  case round =>
    obtain ⟨a, b, rfl, rfl, ha, hb, hbn, Hbe⟩ := hrel
    by_cases hlt : a < b
    · have hab : (a : Int) < b := by omega
      obtain ⟨q, hq, hq1, hq2⟩ : ∃ q : Nat, ((a : Int) + b) / 2 = (q : Int) ∧ a ≤ q ∧ q < b := ⟨(a + b) / 2, by omega, by omega, by omega⟩
      have hfq := Hf.out q (by omega) _ Hbe.out
      have Hfq := Lib.hid hfq
      clear hfq
      go_wp2_with fail
      by_cases hqr : r ≤ q
      · have Hfq := Lib.hid (show Calls Try.prog 59 #[.int .i64 (q : Int), c1, c2] wr fun x w' => x = .returned (.bool true) ∧ Below wr.heap.size wr w' from by have h := Hfq.out; rwa [decide_eq_true hqr] at h)
        refine Hfq.out.mono ?_
        rintro e wx ⟨rfl, hbx⟩
        have HB := Lib.hid (Hbe.out.trans (hbx.mono Hbe.out.size))
        clear hbx
        go_wp2_with fail
        go_roundw
        case rel => exact ⟨a, q, rfl, rfl, by omega, by omega, by omega, HB⟩
        case measure => simp [intOf]; omega
      · have Hfq := Lib.hid (show Calls Try.prog 59 #[.int .i64 (q : Int), c1, c2] wr fun x w' => x = .returned (.bool false) ∧ Below wr.heap.size wr w' from by have h := Hfq.out; rwa [decide_eq_false hqr] at h)
        refine Hfq.out.mono ?_
        rintro e wx ⟨rfl, hbx⟩
        have HB := Lib.hid (Hbe.out.trans (hbx.mono Hbe.out.size))
        clear hbx
        go_wp2_with fail
        go_roundw
        case rel => exact ⟨q + 1, b, rfl, rfl, by omega, by omega, by omega, HB⟩
        case measure => simp [intOf]; omega
    · obtain rfl : a = r := by omega
      obtain rfl : b = a := by omega
      have hab : decide ((b : Int) < b) = false := by simp
      go_wp2_with fail
      go_ret
      exact ⟨rfl, Hbe.out⟩

theorem sortSearch_two (c1 c2 c3 : Value) (N r : Nat) (w : World) (hr : r ≤ N) (hN : N ≤ 1000000)
    (hf : ∀ k, k < N → ∀ wx, Below w.heap.size w wx → Calls Try.prog 60 #[.int .i64 (k : Int), c1, c2, c3] wx fun x w' => x = .returned (.bool (decide (r ≤ k))) ∧ Below wx.heap.size wx w') :
    Calls Try.prog 58 #[.int .i64 (N : Int), .func (.func 60) #[] #[c1, c2, c3]] w fun x w' => x = .returned (.int .i64 (r : Int)) ∧ Below w.heap.size w w' := by
  have Hf := Lib.hid hf
  clear hf
  go_enter Try.func58, Try.ntmps58
  go_wp2_with fail
  go_loopw [5, 6] (fun i j wr => ∃ a b : Nat, i = .int .i64 a ∧ j = .int .i64 b ∧ a ≤ r ∧ r ≤ b ∧ b ≤ N ∧ Hid (Below w.heap.size w wr)) (fun i j _ => (intOf j - intOf i).toNat)
  case atStart => exact ⟨0, N, rfl, rfl, by omega, by omega, by omega, Lib.hid (Below.refl _ _)⟩
  case round =>
    obtain ⟨a, b, rfl, rfl, ha, hb, hbn, Hbe⟩ := hrel
    by_cases hlt : a < b
    · have hab : (a : Int) < b := by omega
      obtain ⟨q, hq, hq1, hq2⟩ : ∃ q : Nat, ((a : Int) + b) / 2 = (q : Int) ∧ a ≤ q ∧ q < b := ⟨(a + b) / 2, by omega, by omega, by omega⟩
      have hfq := Hf.out q (by omega) _ Hbe.out
      have Hfq := Lib.hid hfq
      clear hfq
      go_wp2_with fail
      by_cases hqr : r ≤ q
      · have Hfq := Lib.hid (show Calls Try.prog 60 #[.int .i64 (q : Int), c1, c2, c3] wr fun x w' => x = .returned (.bool true) ∧ Below wr.heap.size wr w' from by have h := Hfq.out; rwa [decide_eq_true hqr] at h)
        refine Hfq.out.mono ?_
        rintro e wx ⟨rfl, hbx⟩
        have HB := Lib.hid (Hbe.out.trans (hbx.mono Hbe.out.size))
        clear hbx
        go_wp2_with fail
        go_roundw
        case rel => exact ⟨a, q, rfl, rfl, by omega, by omega, by omega, HB⟩
        case measure => simp [intOf]; omega
      · have Hfq := Lib.hid (show Calls Try.prog 60 #[.int .i64 (q : Int), c1, c2, c3] wr fun x w' => x = .returned (.bool false) ∧ Below wr.heap.size wr w' from by have h := Hfq.out; rwa [decide_eq_false hqr] at h)
        refine Hfq.out.mono ?_
        rintro e wx ⟨rfl, hbx⟩
        have HB := Lib.hid (Hbe.out.trans (hbx.mono Hbe.out.size))
        clear hbx
        go_wp2_with fail
        go_roundw
        case rel => exact ⟨q + 1, b, rfl, rfl, by omega, by omega, by omega, HB⟩
        case measure => simp [intOf]; omega
    · obtain rfl : a = r := by omega
      obtain rfl : b = a := by omega
      have hab : decide ((b : Int) < b) = false := by simp
      go_wp2_with fail
      go_ret
      exact ⟨rfl, Hbe.out⟩
end Go.Proofs.Ytfkkcgdniepgoaa

/- chapter 13: from's first closure. -/
namespace Go.Proofs.Ytfkkcgdniepgoaa
open Go.RowKit
set_option maxHeartbeats 4000000
set_option maxRecDepth 100000
set_option linter.unusedVariables false

/-- the first closure of from: is the midpoint at k not ahead of e? -/
theorem fromOne_any (M E : Nat) (A : Option Addr) (n c B k : Nat) (ms : List En) (x e : En) (w : World) (hM : BlkIs w M 22 #[.slice A n c]) (hE : BlkIs w E 33 #[.int .i64 e.1, .int .i64 e.2.1, .int .i64 e.2.2]) (hr : SlR w B 3 A n (enVs ms)) (hB : B ≤ w.heap.size) (hn : n ≤ 1000000) (hk : k < n) (hx : ms[k]? = some x) :
    Calls Try.prog 59 #[.int .i64 (k : Int), .pointer (some ⟨M, 0, none⟩), .pointer (some ⟨E, 0, none⟩)] w fun z w' => z = .returned (.bool (!ltE x e)) ∧ Below w.heap.size w w' := by
  obtain ⟨ad, x', rfl, had, hx', hat⟩ := hr.en hk
  rw [hx] at hx'
  injection hx' with hx'
  subst hx'
  obtain ⟨x0, x1, x2⟩ := x
  obtain ⟨e0, e1, e2⟩ := e
  obtain ⟨a0, a1, a2⟩ := id hat
  have m0 := hM.cell 0
  have b0 := hE.cell 0; have b1 := hE.cell 1; have b2 := hE.cell 2
  dsimp only at a0 a1 a2 b0 b1 b2
  simp at m0 b0 b1 b2
  have hless := fun w => less_any (x0, x1, x2) (e0, e1, e2) w
  unfold enA at hless
  dsimp only at hless
  have Hless := Lib.hid hless
  have hk1 : (k : Int) < (n : Int) := by omega
  have hk0 : 0 ≤ (k : Int) := by omega
  have hS : ∀ wx, Below w.heap.size w wx → wx.cell? ⟨M, 0, none⟩ = some (.slice (some ad) n c) ∧ wx.cell? (ad.add (k * 3)) = some (.int .i64 x0) ∧ wx.cell? ⟨(ad.add (k * 3)).block, (ad.add (k * 3)).off + 1, none⟩ = some (.int .i64 x1) ∧ wx.cell? ⟨(ad.add (k * 3)).block, (ad.add (k * 3)).off + 2, none⟩ = some (.int .i64 x2) ∧ wx.cell? ⟨E, 0, none⟩ = some (.int .i64 e0) ∧ wx.cell? ⟨E, 1, none⟩ = some (.int .i64 e1) ∧ wx.cell? ⟨E, 2, none⟩ = some (.int .i64 e2) := fun wx h => by
    have f1 := hat.below h (by rw [add_block]; exact Nat.lt_of_lt_of_le had hB)
    have f2 := (hE.below h hE.lt).cell; have f3 := (hM.below h hM.lt).cell
    exact ⟨f3 0, f1.1, f1.2.1, f1.2.2, f2 0, f2 1, f2 2⟩
  have HS := Lib.hid hS
  have HB := Below.refl w.heap.size w
  clear hless hat hx hr hM hE hS m0 a0 a1 a2 b0 b1 b2
  go_enter Try.func59, Try.ntmps59
  go_wp2_with fail
  refine wp_region_held_drew (S := (fun wx => wx.cell? ⟨M, 0, none⟩ = some (.slice (some ad) n c) ∧ wx.cell? (ad.add (k * 3)) = some (.int .i64 x0) ∧ wx.cell? ⟨(ad.add (k * 3)).block, (ad.add (k * 3)).off + 1, none⟩ = some (.int .i64 x1) ∧ wx.cell? ⟨(ad.add (k * 3)).block, (ad.add (k * 3)).off + 2, none⟩ = some (.int .i64 x2) ∧ wx.cell? ⟨E, 0, none⟩ = some (.int .i64 e0) ∧ wx.cell? ⟨E, 1, none⟩ = some (.int .i64 e1) ∧ wx.cell? ⟨E, 2, none⟩ = some (.int .i64 e2))) (by kernel_rfl) (HS.out _ (below_drewN HB 1)) (fun hHeld => ?_)
  refine take_at 0 (some 5) (v := ?_) rfl (by kernel_rfl) (by kernel_rfl) (by kernel_rfl) (by kernel_rfl) (fun _ _ _ h => h) (Or.inl ⟨by kernel_rfl, ?_⟩) (by assumption) ?_
  rotate_left
  · (intro w hSw; (try dsimp only at hSw); go_simp; try with_reducible rfl)
  try simp only [Act.put, List.setIfInBounds_toArray, List.set_cons_zero, List.set_cons_succ]
  refine take_at 1 (some 6) (v := ?_) rfl (by kernel_rfl) (by kernel_rfl) (by kernel_rfl) (by kernel_rfl) (fun _ _ _ h => h) (Or.inl ⟨by kernel_rfl, ?_⟩) (by assumption) ?_
  rotate_left
  · (intro w hSw; (try dsimp only at hSw); go_simp; try with_reducible rfl)
  try simp only [Act.put, List.setIfInBounds_toArray, List.set_cons_zero, List.set_cons_succ]
  refine take_at 2 (some 7) (v := ?_) rfl (by kernel_rfl) (by kernel_rfl) (by kernel_rfl) (by kernel_rfl) (fun _ _ _ h => h) (Or.inl ⟨by kernel_rfl, ?_⟩) (by assumption) ?_
  rotate_left
  · (intro w hSw; (try dsimp only at hSw); go_simp; try with_reducible rfl)
  try simp only [Act.put, List.setIfInBounds_toArray, List.set_cons_zero, List.set_cons_succ]
  refine take_at 3 (some 8) (v := ?_) rfl (by kernel_rfl) (by kernel_rfl) (by kernel_rfl) (by kernel_rfl) (fun _ _ _ h => h) (Or.inl ⟨by kernel_rfl, ?_⟩) (by assumption) ?_
  rotate_left
  · (intro w hSw; (try dsimp only at hSw); go_simp; try with_reducible rfl)
  try simp only [Act.put, List.setIfInBounds_toArray, List.set_cons_zero, List.set_cons_succ]
  refine take_at 4 (some 9) (v := ?_) rfl (by kernel_rfl) (by kernel_rfl) (by kernel_rfl) (by kernel_rfl) (fun _ _ _ h => h) (Or.inl ⟨by kernel_rfl, ?_⟩) (by assumption) ?_
  rotate_left
  · (intro w hSw; (try dsimp only at hSw); go_simp; try with_reducible rfl)
  try simp only [Act.put, List.setIfInBounds_toArray, List.set_cons_zero, List.set_cons_succ]
  refine wpAnyH_ready (rs := [5]) (by kernel_rfl) (by simp) ?_
  refine AllReadyH.cons rfl (fun K hK => ?_) AllReadyH.nil
  go_simp
  refine (Hless.out _).mono ?_; rintro e wx ⟨rfl, hb⟩; have HB := HB.trans ((by first | exact hb | exact below_undrew hb : Below _ _ _).mono HB.size)
  first | (refine hK.out _ _ (HS.out _ HB) (fun hHeld => ?_)) | (go_wp2_with fail; refine hK.out _ _ (HS.out _ HB) (fun hHeld => ?_))
  clear hK K
  try simp only [Act.put, List.setIfInBounds_toArray, List.set_cons_zero, List.set_cons_succ]
  refine take_at 6 (some 11) (v := ?_) rfl (by kernel_rfl) (by kernel_rfl) (by kernel_rfl) (by kernel_rfl) (fun _ _ _ h => h) (Or.inl ⟨by kernel_rfl, ?_⟩) (by assumption) ?_
  rotate_left
  · (intro w hSw; (try dsimp only at hSw); go_simp; try with_reducible rfl)
  try simp only [Act.put, List.setIfInBounds_toArray, List.set_cons_zero, List.set_cons_succ]
  refine take_at 7 (some 4) (v := ?_) rfl (by kernel_rfl) (by kernel_rfl) (by kernel_rfl) (by kernel_rfl) (fun _ _ _ h => h) (Or.inl ⟨by kernel_rfl, ?_⟩) (by assumption) ?_
  rotate_left
  · (intro w hSw; (try dsimp only at hSw); go_simp; try with_reducible rfl)
  try simp only [Act.put, List.setIfInBounds_toArray, List.set_cons_zero, List.set_cons_succ]
  refine wpAnyH_done (by kernel_rfl) ?_ _
  go_wp2_with fail
  go_ret
  exact ⟨rfl, HB⟩
end Go.Proofs.Ytfkkcgdniepgoaa

/- chapter 13: from's second closure. -/
namespace Go.Proofs.Ytfkkcgdniepgoaa
open Go.RowKit
set_option maxHeartbeats 4000000
set_option maxRecDepth 100000
set_option linter.unusedVariables false

/-- the second closure of from: is the entry at o + k not ahead of e? -/
theorem fromTwo_any (M O E : Nat) (A : Option Addr) (n c B o k : Nat) (ms : List En) (x e : En) (w : World) (hM : BlkIs w M 22 #[.slice A n c]) (hO : BlkIs w O 3 #[.int .i64 (o : Int)]) (hE : BlkIs w E 33 #[.int .i64 e.1, .int .i64 e.2.1, .int .i64 e.2.2]) (hr : SlR w B 3 A n (enVs ms)) (hB : B ≤ w.heap.size) (hn : n ≤ 1000000) (hk : o + k < n) (hx : ms[o + k]? = some x) :
    Calls Try.prog 60 #[.int .i64 (k : Int), .pointer (some ⟨M, 0, none⟩), .pointer (some ⟨O, 0, none⟩), .pointer (some ⟨E, 0, none⟩)] w fun z w' => z = .returned (.bool (!ltE x e)) ∧ Below w.heap.size w w' := by
  obtain ⟨q, hq⟩ : ∃ q, o + k = q := ⟨_, rfl⟩
  rw [hq] at hk hx
  obtain ⟨ad, x', rfl, had, hx', hat⟩ := hr.en hk
  rw [hx] at hx'
  injection hx' with hx'
  subst hx'
  obtain ⟨x0, x1, x2⟩ := x
  obtain ⟨e0, e1, e2⟩ := e
  have hless := fun w => less_any (x0, x1, x2) (e0, e1, e2) w
  unfold enA at hless
  dsimp only at hless
  have Hless := Lib.hid hless
  have hk1 : (q : Int) < (n : Int) := by omega
  have hk1' : (o : Int) + (k : Int) = (q : Int) := by omega
  have hwk : IntKind.i64.wrap ((o : Int) + (k : Int)) = (q : Int) := by rw [IntWalk.i64_in _ (by omega)]; omega
  have hwk2 : IntKind.i64.wrap (q : Int) = (q : Int) := IntWalk.i64_in _ (by omega)
  have hk0 : 0 ≤ (q : Int) := by omega
  have hS : ∀ wx, Below w.heap.size w wx → wx.cell? ⟨M, 0, none⟩ = some (.slice (some ad) n c) ∧ wx.cell? (ad.add (q * 3)) = some (.int .i64 x0) ∧ wx.cell? ⟨(ad.add (q * 3)).block, (ad.add (q * 3)).off + 1, none⟩ = some (.int .i64 x1) ∧ wx.cell? ⟨(ad.add (q * 3)).block, (ad.add (q * 3)).off + 2, none⟩ = some (.int .i64 x2) ∧ wx.cell? ⟨O, 0, none⟩ = some (.int .i64 (o : Int)) ∧ wx.cell? ⟨E, 0, none⟩ = some (.int .i64 e0) ∧ wx.cell? ⟨E, 1, none⟩ = some (.int .i64 e1) ∧ wx.cell? ⟨E, 2, none⟩ = some (.int .i64 e2) := fun wx h => by
    have f1 := hat.below h (by rw [add_block]; exact Nat.lt_of_lt_of_le had hB)
    have f2 := (hE.below h hE.lt).cell; have f3 := (hM.below h hM.lt).cell
    exact ⟨f3 0, f1.1, f1.2.1, f1.2.2, (hO.below h hO.lt).cell 0, f2 0, f2 1, f2 2⟩
  have HS := Lib.hid hS
  have HB := Below.refl w.heap.size w
  clear hless hat hx hr hM hO hE hS
  go_enter Try.func60, Try.ntmps60
  go_wp2_with fail
  refine wp_region_held_drew (S := (fun wx => wx.cell? ⟨M, 0, none⟩ = some (.slice (some ad) n c) ∧ wx.cell? (ad.add (q * 3)) = some (.int .i64 x0) ∧ wx.cell? ⟨(ad.add (q * 3)).block, (ad.add (q * 3)).off + 1, none⟩ = some (.int .i64 x1) ∧ wx.cell? ⟨(ad.add (q * 3)).block, (ad.add (q * 3)).off + 2, none⟩ = some (.int .i64 x2) ∧ wx.cell? ⟨O, 0, none⟩ = some (.int .i64 (o : Int)) ∧ wx.cell? ⟨E, 0, none⟩ = some (.int .i64 e0) ∧ wx.cell? ⟨E, 1, none⟩ = some (.int .i64 e1) ∧ wx.cell? ⟨E, 2, none⟩ = some (.int .i64 e2))) (by kernel_rfl) (HS.out _ (below_drewN HB 1)) (fun hHeld => ?_)
  refine take_at 0 (some 6) (v := ?_) rfl (by kernel_rfl) (by kernel_rfl) (by kernel_rfl) (by kernel_rfl) (fun _ _ _ h => h) (Or.inl ⟨by kernel_rfl, ?_⟩) (by assumption) ?_
  rotate_left
  · (intro w hSw; (try dsimp only at hSw); go_simp; try with_reducible rfl)
  try simp only [Act.put, List.setIfInBounds_toArray, List.set_cons_zero, List.set_cons_succ]
  refine take_at 1 (some 7) (v := ?_) rfl (by kernel_rfl) (by kernel_rfl) (by kernel_rfl) (by kernel_rfl) (fun _ _ _ h => h) (Or.inl ⟨by kernel_rfl, ?_⟩) (by assumption) ?_
  rotate_left
  · (intro w hSw; (try dsimp only at hSw); go_simp; try with_reducible rfl)
  try simp only [Act.put, List.setIfInBounds_toArray, List.set_cons_zero, List.set_cons_succ]
  refine take_at 2 (some 8) (v := ?_) rfl (by kernel_rfl) (by kernel_rfl) (by kernel_rfl) (by kernel_rfl) (fun _ _ _ h => h) (Or.inl ⟨by kernel_rfl, ?_⟩) (by assumption) ?_
  rotate_left
  · (intro w hSw; (try dsimp only at hSw); go_simp; try with_reducible rfl)
  try simp only [Act.put, List.setIfInBounds_toArray, List.set_cons_zero, List.set_cons_succ]
  refine take_at 3 (some 9) (v := ?_) rfl (by kernel_rfl) (by kernel_rfl) (by kernel_rfl) (by kernel_rfl) (fun _ _ _ h => h) (Or.inl ⟨by kernel_rfl, ?_⟩) (by assumption) ?_
  rotate_left
  · (intro w hSw; (try dsimp only at hSw); go_simp; try with_reducible rfl)
  try simp only [Act.put, List.setIfInBounds_toArray, List.set_cons_zero, List.set_cons_succ]
  refine take_at 4 (some 10) (v := ?_) rfl (by kernel_rfl) (by kernel_rfl) (by kernel_rfl) (by kernel_rfl) (fun _ _ _ h => h) (Or.inl ⟨by kernel_rfl, ?_⟩) (by assumption) ?_
  rotate_left
  · (intro w hSw; (try dsimp only at hSw); go_simp; try with_reducible rfl)
  try simp only [Act.put, List.setIfInBounds_toArray, List.set_cons_zero, List.set_cons_succ]
  refine take_at 5 (some 11) (v := ?_) rfl (by kernel_rfl) (by kernel_rfl) (by kernel_rfl) (by kernel_rfl) (fun _ _ _ h => h) (Or.inl ⟨by kernel_rfl, ?_⟩) (by assumption) ?_
  rotate_left
  · (intro w hSw; (try dsimp only at hSw); go_simp; try with_reducible rfl)
  try simp only [Act.put, List.setIfInBounds_toArray, List.set_cons_zero, List.set_cons_succ]
  refine take_at 6 (some 12) (v := ?_) rfl (by kernel_rfl) (by kernel_rfl) (by kernel_rfl) (by kernel_rfl) (fun _ _ _ h => h) (Or.inl ⟨by kernel_rfl, ?_⟩) (by assumption) ?_
  rotate_left
  · (intro w hSw; (try dsimp only at hSw); go_simp; try with_reducible rfl)
  try simp only [Act.put, List.setIfInBounds_toArray, List.set_cons_zero, List.set_cons_succ]
  refine wpAnyH_ready (rs := [7]) (by kernel_rfl) (by simp) ?_
  refine AllReadyH.cons rfl (fun K hK => ?_) AllReadyH.nil
  go_simp
  refine (Hless.out _).mono ?_; rintro e wx ⟨rfl, hb⟩; have HB := HB.trans ((by first | exact hb | exact below_undrew hb : Below _ _ _).mono HB.size)
  first | (refine hK.out _ _ (HS.out _ HB) (fun hHeld => ?_)) | (go_wp2_with fail; refine hK.out _ _ (HS.out _ HB) (fun hHeld => ?_))
  clear hK K
  try simp only [Act.put, List.setIfInBounds_toArray, List.set_cons_zero, List.set_cons_succ]
  refine take_at 8 (some 14) (v := ?_) rfl (by kernel_rfl) (by kernel_rfl) (by kernel_rfl) (by kernel_rfl) (fun _ _ _ h => h) (Or.inl ⟨by kernel_rfl, ?_⟩) (by assumption) ?_
  rotate_left
  · (intro w hSw; (try dsimp only at hSw); go_simp; try with_reducible rfl)
  try simp only [Act.put, List.setIfInBounds_toArray, List.set_cons_zero, List.set_cons_succ]
  refine take_at 9 (some 5) (v := ?_) rfl (by kernel_rfl) (by kernel_rfl) (by kernel_rfl) (by kernel_rfl) (fun _ _ _ h => h) (Or.inl ⟨by kernel_rfl, ?_⟩) (by assumption) ?_
  rotate_left
  · (intro w hSw; (try dsimp only at hSw); go_simp; try with_reducible rfl)
  try simp only [Act.put, List.setIfInBounds_toArray, List.set_cons_zero, List.set_cons_succ]
  refine wpAnyH_done (by kernel_rfl) ?_ _
  go_wp2_with fail
  go_ret
  exact ⟨rfl, HB⟩

end Go.Proofs.Ytfkkcgdniepgoaa

