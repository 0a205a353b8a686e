/- chapter 7: EventMany, walked. -/
import Derived.Test.YtfpalamoaflilaaEvAlive
import Derived.Test.YtfpalamoaflilaaEvGet2
import Derived.Test.YtfpalamoaflilaaEvLaw2
import Derived.Test.YtfpalamoaflilaaCopy
namespace Go.Proofs.Ytfpalamoaflilaa
open Go.RowKit
set_option maxHeartbeats 4000000
set_option maxRecDepth 100000
set_option linter.unusedVariables false
attribute [local go_sem] run_store_flt

/-- the i-th event -/
def evI (i : Nat) : Ev := ⟨(i : Int) + 1, ⟨#[116]⟩, ⟨#[]⟩, 0⟩
def evIs (n : Nat) : List Ev := (List.range n).map evI
theorem evIs_len (n : Nat) : (evIs n).length = n := by simp [evIs]
theorem evIs_succ (n : Nat) : evIs (n + 1) = evIs n ++ [evI n] := by simp [evIs, List.range_succ]
theorem evIs_valid (n : Nat) : (evIs n).all validE = true := by
  rw [List.all_eq_true]
  intro e he
  obtain ⟨i, _, rfl⟩ := List.mem_map.1 he
  exact validT _ (by omega)
theorem evIs_fits (n : Nat) (h : n ≤ 12) : ∀ e ∈ evIs n, e.fits := by
  intro e he
  obtain ⟨i, hi, rfl⟩ := List.mem_map.1 he
  have := List.mem_range.1 hi
  exact ⟨by show _ ≤ (i : Int) + 1; omega, by show (i : Int) + 1 ≤ _; omega, by show (⟨#[116]⟩ : ByteArray).size ≤ _; decide, by show (⟨#[]⟩ : ByteArray).size ≤ _; decide, by show (0 : Nat) < _; decide⟩
theorem check_many (l : List Ev) : checkC ⟨1, 0, ⟨#[115]⟩, -2, l, 0, 0, 0⟩ = evsErr l := by
  unfold checkC
  dsimp only
  rw [if_neg (by rintro (h | h | h); omega; omega; revert h; decide), if_neg (by rintro ⟨_, h⟩; rw [nameS] at h; cases h)]
  by_cases he : evsErr l = 0
  · rw [if_neg (by rintro ⟨_, h⟩; exact h he), if_neg, he]
    rintro (⟨_, h⟩ | ⟨h, _⟩ | h)
    · revert h; decide
    · omega
    · unfold spareB at h; simp at h
  · rw [if_pos ⟨rfl, he⟩]
theorem err_many (n : Nat) (h1 : 1 ≤ n) : evsErr (evIs n) = if 8 < n then 2 else 0 := by
  unfold evsErr
  rw [if_neg (by rw [evIs_len]; omega), evIs_len, evIs_valid]
  simp
theorem valid_set (l : List Ev) (a : Nat) (e : Ev) (ha : a < l.length) (hl : l.all validE = true) : (l.set a e).all validE = validE e := by
  rw [List.set_eq_take_append_cons_drop, if_pos ha, List.all_append, List.all_cons]
  have h1 : (l.take a).all validE = true := by
    rw [List.all_eq_true] at hl ⊢
    exact fun x hx => hl x (List.mem_of_mem_take hx)
  have h2 : (l.drop (a + 1)).all validE = true := by
    rw [List.all_eq_true] at hl ⊢
    exact fun x hx => hl x (List.mem_of_mem_drop hx)
  rw [h1, h2]; simp
theorem err_bad (n a : Nat) (e : Ev) (h1 : 1 ≤ n) (ha : a < n) : evsErr ((evIs n).set a e) = if 8 < n then 2 else if validE e = true then 0 else 1 := by
  unfold evsErr
  rw [if_neg (by rw [List.length_set, evIs_len]; omega), List.length_set, evIs_len, valid_set _ _ _ (by rw [evIs_len]; exact ha) (evIs_valid n)]
theorem evVs_set (ps : List Ev) (k : Nat) (p : Ev) (hk : k < ps.length) : setM (evVs ps) (k * 4) (evC p) = evVs (ps.set k p) := by
  rw [setM_eq _ _ _ (by rw [evVs_length]; simp [evC]; omega), evVs_take, List.set_eq_take_append_cons_drop, if_pos hk, evVs_append, evVs_cons, evC_length, show k * 4 + 4 = (k + 1) * 4 from by omega, evVs_drop, List.append_assoc]

theorem eventMany_any (n a : Int) (id : Int) (ty da : ByteArray) (va : Nat) (W : World) (hf : (⟨id, ty, da, va⟩ : Ev).fits) (hn : -9223372036854775808 ≤ n ∧ n ≤ 9223372036854775807) (ha : -9223372036854775808 ≤ a ∧ a ≤ 9223372036854775807) :
    Calls Try.prog 4 #[.int .i64 n, .int .i64 a, .agg #[.int .i64 id, .string ty, .string da, .float .f64 va]] W fun e w' => e = .returned (.bool true) ∧ Below W.heap.size W w' := by
  obtain ⟨W0, hW0⟩ : ∃ V, W.alloc (.cells #[.int .i64 id, .string ty, .string da, .float .f64 va] 33) = V := ⟨_, rfl⟩
  have hE : BlkIs W0 W.heap.size 33 #[.int .i64 id, .string ty, .string da, .float .f64 va] := by rw [← hW0]; exact BlkIs.new _ _ _
  have hb0 : Below W.heap.size W W0 := by rw [← hW0]; exact (Below.refl _ _).alloc (Nat.le_refl _) _
  have hs0 : W0.heap.size = W.heap.size + 1 := by rw [← hW0]; simp
  have q1 := hE.cell 1; have q2 := hE.cell 2
  have hd1 := hf.d1
  have ht1 := hf.t1
  dsimp only at hd1 ht1
  by_cases hg : n < 1 ∨ 12 < n ∨ a < 0 ∨ n ≤ a ∨ 100 < ty.size ∨ 300 < da.size
  · have hg' : n < 1 ∨ (¬ n < 1 ∧ 12 < n) ∨ (¬ n < 1 ∧ ¬ 12 < n ∧ a < 0) ∨ (¬ n < 1 ∧ ¬ 12 < n ∧ ¬ a < 0 ∧ n ≤ a) ∨ (¬ n < 1 ∧ ¬ 12 < n ∧ ¬ a < 0 ∧ ¬ n ≤ a ∧ 100 < ty.size) ∨ (¬ n < 1 ∧ ¬ 12 < n ∧ ¬ a < 0 ∧ ¬ n ≤ a ∧ ¬ 100 < ty.size ∧ 300 < da.size) := by omega
    have Hb0 := Lib.hid hb0
    clear hg hE hb0 hs0 hf
    rcases hg' with g1 | ⟨g1, g2⟩ | ⟨g1, g2, g3⟩ | ⟨g1, g2, g3, g4⟩ | ⟨g1, g2, g3, g4, g5⟩ | ⟨g1, g2, g3, g4, g5, g6⟩
    all_goals
      go_enter Try.func4, Try.ntmps4
      go_wp2_with fail
      (try rw [hW0])
      refine (alive7_any _).mono ?_
      rintro e w1 ⟨rfl, hb1⟩
      go_wp2_with fail
      go_ret
      exact ⟨rfl, Hb0.out.trans (hb1.mono Hb0.out.size)⟩
  · obtain ⟨N, rfl⟩ : ∃ N : Nat, n = (N : Int) := ⟨n.toNat, by omega⟩
    obtain ⟨a, rfl⟩ : ∃ K : Nat, a = (K : Int) := ⟨a.toNat, by omega⟩
    have g1 : 1 ≤ N := by omega
    have g2 : N ≤ 12 := by omega
    have g4 : a < N := by omega
    have g5 : ¬ 100 < ty.size := by omega
    have g6 : ¬ 300 < da.size := by omega
    obtain ⟨i0, hi0, hz0, hz1, hz2⟩ := info_parts info_ev
    obtain ⟨W3, hW3⟩ : ∃ V, W0.alloc (.cells #[.int .i64 1, .int .i64 0, .string ⟨#[115]⟩, .int .i64 (-2), .slice none 0 0, .int .i64 0, .int .i64 0, .int .i64 0] 26) = V := ⟨_, rfl⟩
    have hC : BlkIs W3 W0.heap.size 26 #[.int .i64 1, .int .i64 0, .string ⟨#[115]⟩, .int .i64 (-2), .slice none 0 0, .int .i64 0, .int .i64 0, .int .i64 0] := by rw [← hW3]; exact BlkIs.new _ _ _
    have hb3 : Below W0.heap.size W0 W3 := by rw [← hW3]; exact (Below.refl _ _).alloc (Nat.le_refl _) _
    have hgg : W.heap.size < W0.heap.size := by omega
    have hs3 : W3.heap.size = W0.heap.size + 1 := by rw [← hW3]; simp
    have HE := Lib.hid (hE.below hb3 hE.lt)
    have HC := Lib.hid hC
    have Hb3 := Lib.hid (hb0.trans (hb3.mono hb0.size))
    have Hf := Lib.hid hf
    have hle0 : W.heap.size ≤ W0.heap.size := by omega
    have hg3 : W0.heap.size < W3.heap.size := by omega
    have HW3 := Lib.hid hW3
    have e1 : decide ((N : Int) < 1) = false := by simp; omega
    have e2 : decide ((12 : Int) < (N : Int)) = false := by simp; omega
    have e3 : decide ((a : Int) < 0) = false := by simp
    have e4 : decide (N ≤ a) = false := by simp; omega
    have e5 : decide ((100 : Int) < (ty.size : Int)) = false := by simp; omega
    have e6 : decide ((300 : Int) < (da.size : Int)) = false := by simp; omega
    clear hg hE hC hb0 hb3 hf hs0 hs3 hn ha hW3
    go_enter Try.func4, Try.ntmps4
    go_wp2_with fail
    (try rw [hW0])
    rw [HW3.out]
    generalize W0.heap.size = g at HC hgg hle0 hg3 ⊢
    clear hW0 HW3 q1 q2
    go_loopw [8] (fun i wr => ∃ (k : Nat) (v : Value), k ≤ N ∧ i = .int .i64 (k : Int) ∧ Hid (wr.ownsRow W3.heap.size 33 4 v k (evVs (evIs k)) ∧ BlkIs wr g 26 #[.int .i64 1, .int .i64 0, .string ⟨#[115]⟩, .int .i64 (-2), v, .int .i64 0, .int .i64 0, .int .i64 0] ∧ Below g W3 wr)) (fun i _ => N - (intOf i).toNat)
    case atStart => exact ⟨0, _, Nat.zero_le _, rfl, Lib.hid ⟨World.ownsRow_nil _ _ _ _, HC.out, Below.refl _ _⟩⟩
    case round =>
      obtain ⟨k, v, hk, rfl, HI⟩ := hrel
      have hk0 : 0 ≤ (k : Int) := by omega
      obtain ⟨Ar, cr, rfl, hncr⟩ := own_slice HI.out.1
      have hgw : g < wr.heap.size := HI.out.2.1.lt
      have hsz := HI.out.2.2.size
      have f := HI.out.2.1.cell
      have f0 := f 0; have f1 := f 1; have f2 := f 2; have f3 := f 3; have f4 := f 4; have f5 := f 5; have f6 := f 6; have f7 := f 7
      have hne : (Value.slice Ar k cr).ownBlock ≠ some g := fun e => by have := (HI.out.1.lt g e).1; omega
      by_cases hlt : k < N
      · have hlt' : (k : Int) < (N : Int) := by omega
        have hk1 : (k : Int) ≤ 12 := by omega
        clear f
        have Hne := Lib.hid hne
        clear hne
        go_wp2_with (at_builtin; refine wpList_append_lies _ rfl (.tmp 45) (.tmp 49) _ rfl W3.heap.size 33 i0 _ 4 48 Try.underlying22 hi0 hz0 hz1 hz2 rfl (by omega) (.slice Ar k cr) k (evVs (evIs k)) rfl (HI.out.1.alloc _) ⟨wr.heap.size, 0, none⟩ 1 1 (evC (evI k)) rfl rfl (World.news_of_block (cs := #[.int .i64 ((k : Int) + 1), .string ⟨#[116]⟩, .string ⟨#[]⟩, .float .f64 0]) (heap_alloc_new wr _)) (evC_one _) (by omega) (by simp only [maxLen]; omega) (by omega) (by simp; omega) (wr.heap.size + 1) (by simp) ?_; intro gt cp w1 hown1 hgrow1 hat1 hlt1; have hB1 := (HI.out.2.1.alloc (.cells #[.int .i64 ((k : Int) + 1), .string ⟨#[116]⟩, .string ⟨#[]⟩, .float .f64 0] 33)).grown hgrow1 (Ne.symm Hne.out); have hd4 := hB1.cell 4; have hdf := hB1.free 4; have hdg := hB1.lt; simp at hd4)
        have hbel1 := (HI.out.2.2.alloc (by omega : g ≤ wr.heap.size) (.cells #[.int .i64 ((k : Int) + 1), .string ⟨#[116]⟩, .string ⟨#[]⟩, .float .f64 0] 33)).grown hgrow1 (by simp; omega) (fun q hq => by have := (HI.out.1.lt q hq).1; omega)
        have HD := Lib.hid hB1; have HO := Lib.hid hown1; have HL := Lib.hid hbel1
        clear hB1 hown1 hbel1 hgrow1 hat1
        have hsn := evIs_succ k
        have Hsn := Lib.hid hsn
        clear hsn
        go_roundw
        case rel =>
          refine ⟨k + 1, .slice (some ⟨gt, 0, none⟩) (k + 1) cp, by omega, by go_num, Lib.hid ⟨?_, HD.out.put 4 _, HL.out.setCell (Nat.le_refl _) _⟩⟩
          rw [Hsn.out, evVs_append]
          have := own_far (a := ⟨g, 4, none⟩) HO.out (fun e => by have := (HO.out.lt g e).1; omega) (.slice (some ⟨gt, 0, none⟩) (k + 1) cp)
          simpa [evVs] using this
        case measure => simp [intOf]; omega
      · obtain rfl : k = N := by omega
        have hd : decide (k < k) = false := by simp
        have hS0 : ∀ wx, Below wr.heap.size wr wx → wx.cell? ⟨g, 0, none⟩ = some (.int .i64 1) ∧ wx.cell? ⟨g, 1, none⟩ = some (.int .i64 0) ∧ wx.cell? ⟨g, 2, none⟩ = some (.string ⟨#[115]⟩) ∧ wx.cell? ⟨g, 3, none⟩ = some (.int .i64 (-2)) ∧ wx.cell? ⟨g, 4, none⟩ = some (.slice Ar k cr) ∧ wx.cell? ⟨g, 5, none⟩ = some (.int .i64 0) ∧ wx.cell? ⟨g, 6, none⟩ = some (.int .i64 0) ∧ wx.cell? ⟨g, 7, none⟩ = some (.int .i64 0) := fun wx h => by
          have f := (HI.out.2.1.below h hgw).cell
          exact ⟨f 0, f 1, f 2, f 3, f 4, f 5, f 6, f 7⟩
        have hck := check_any 1 0 ⟨#[115]⟩ (-2) Ar k cr wr.heap.size (evIs k) 0 0 0 wr (SlR.own HI.out.1) (Nat.le_refl _) (by omega) (evIs_fits k g2) (by decide)
        rw [check_many, err_many k g1] at hck
        obtain ⟨e4, h4⟩ : ∃ e4 : Ev, e4 = ⟨id, ty, da, va⟩ := ⟨_, rfl⟩
        have herr := err_bad k a e4 g1 g4
        have hE0 := HE.out.below (HI.out.2.2.mono (by omega : W.heap.size + 1 ≤ g)) (by omega)
        have q := hE0.cell
        have q0 := q 0; have q1 := q 1; have q2 := q 2; have q3 := q 3
        have HE0 := Lib.hid hE0
        have hva := fun w => valid_any id ty da va w ht1 hd1
        have hkpos : 0 < k := by omega
        obtain ⟨gr, crr, hv', hgr1, hgr2⟩ := HI.out.1.form hkpos
        injection hv' with hv1 hv2 hv3
        subst hv1 hv3
        have hgr3 : W3.heap.size ≤ gr := (HI.out.1.lt gr rfl).1
        have hset : ∀ wx : World, wr.heap.size ≤ wx.heap.size → wx.ownsRow W3.heap.size 33 4 (.slice (some ⟨gr, 0, none⟩) k cr) k (evVs (evIs k)) → (wx.setCells gr (a * 4) (evC ⟨id, ty, da, va⟩)).ownsRow W3.heap.size 33 4 (.slice (some ⟨gr, 0, none⟩) k cr) k (evVs ((evIs k).set a ⟨id, ty, da, va⟩)) ∧ wx.grownBy (wx.setCells gr (a * 4) (evC ⟨id, ty, da, va⟩)) (some gr) := fun wx _ h => by
          have := own_setM (evC ⟨id, ty, da, va⟩) (evVs (evIs k)) (a * 4) wx h
          rwa [evVs_set _ _ _ (by rw [evIs_len]; exact g4)] at this
        have hfz := fun wx (h : Below wr.heap.size wr wx) => (own_below HI.out.1 h (fun q hq => (HI.out.1.lt q hq).2)).frozenAt
        have hcl := fun wx (h : Below wr.heap.size wr wx) (j : Nat) (hj : j < k * 4) => (own_below HI.out.1 h (fun q hq => (HI.out.1.lt q hq).2)).cellAt j hj
        have hfits : ∀ e ∈ (evIs k).set a ⟨id, ty, da, va⟩, e.fits := fun e he => by
          rcases List.mem_or_eq_of_mem_set he with h | rfl
          · exact evIs_fits k g2 e h
          · exact Hf.out
        have hck2 := fun (wx : World) (h : wx.ownsRow W3.heap.size 33 4 (.slice (some ⟨gr, 0, none⟩) k cr) k (evVs ((evIs k).set a ⟨id, ty, da, va⟩))) => check_any 1 0 ⟨#[115]⟩ (-2) (some ⟨gr, 0, none⟩) k cr wx.heap.size ((evIs k).set a ⟨id, ty, da, va⟩) 0 0 0 wx (SlR.own h) (Nat.le_refl _) (by omega) hfits (by decide)
        rw [check_many, ← h4, herr] at hck2
        rw [← h4] at hset
        have hgB := fun wx (h : Below wr.heap.size wr wx) => HI.out.2.1.below h hgw
        have HgB := Lib.hid hgB
        clear hgB
        have Hset := Lib.hid hset; have Hck2 := Lib.hid hck2; have Hfz := Lib.hid hfz; have Hcl := Lib.hid hcl; have Hva := Lib.hid hva; have H4 := Lib.hid h4
        have Hck := Lib.hid hck
        have HS := Lib.hid hS0
        clear hck hS0 herr q hE0 f hset hck2 hfz hcl hfits hva h4
        have a0 : (0 : Int) ≤ (a : Int) := by omega
        have a1 : (a : Int) < (k : Int) := by omega
        have n1 : ¬ gr = W.heap.size := by omega
        have n2 : ¬ W.heap.size = gr := by omega
        have n3 : ¬ gr = g := by omega
        have n4 : ¬ g = gr := by omega
        have hga : (evIs k)[a]? = some (evI a) := by simp [evIs, g4]
        have Hga := Lib.hid hga
        clear hga
        by_cases h8 : 8 < k
        · have d8 : decide ((8 : Int) < (k : Int)) = true := by simp; omega
          rw [if_pos h8] at Hck Hck2
          clear h8
          go_wp2_with fail
          refine Hck.out.mono ?_
          rintro e w4 ⟨rfl, hb4⟩
          have hE4 := HE0.out.below hb4 HE0.out.lt
          have q := hE4.cell
          have q0 := q 0; have q1 := q 1; have q2 := q 2; have q3 := q 3
          have k0 := (Hcl.out w4 hb4 (a * 4) (by omega)).trans (evVs_get (evIs k) a 0 _ Hga.out (by omega))
          have k1 := (Hcl.out w4 hb4 (a * 4 + 1) (by omega)).trans (evVs_get (evIs k) a 1 _ Hga.out (by omega))
          have k2 := (Hcl.out w4 hb4 (a * 4 + 2) (by omega)).trans (evVs_get (evIs k) a 2 _ Hga.out (by omega))
          have k3 := (Hcl.out w4 hb4 (a * 4 + 3) (by omega)).trans (evVs_get (evIs k) a 3 _ Hga.out (by omega))
          simp [evC, evI] at k0 k1 k2 k3
          have hfz := Hfz.out w4 hb4
          obtain ⟨s0, s1, s2, s3, s4, s5, s6, s7⟩ := HS.out w4 hb4
          have hO4 := Hset.out w4 hb4.size (own_below HI.out.1 hb4 (fun q hq => (HI.out.1.lt q hq).2))
          have HC4 := Lib.hid (HgB.out w4 hb4)
          have hB4 := Lib.hid (Hb3.out.trans ((HI.out.2.2.trans (hb4.mono (Nat.le_of_lt hgw))).mono (by omega)))
          have HO4 := Lib.hid hO4; have HE4 := Lib.hid hE4
          clear hb4 q hE4 hO4 f0 f1 f2 f3 f4 f5 f6 f7
          go_wp2_with fail
          obtain ⟨W5, hW5⟩ : ∃ W5, W5 = w4.setCells gr (a * 4) (evC ⟨id, ty, da, va⟩) := ⟨_, rfl⟩
          have hw5 : (((w4.setCell ⟨gr, a * 4, none⟩ (.int .i64 id)).setCell ⟨gr, a * 4 + 1, none⟩ (.string ty)).setCell ⟨gr, a * 4 + 2, none⟩ (.string da)).setCell ⟨gr, a * 4 + 3, none⟩ (.float .f64 va) = W5 := hW5.symm
          rw [hw5]
          have hO5 : W5.ownsRow W3.heap.size 33 4 (.slice (some ⟨gr, 0, none⟩) k cr) k (evVs ((evIs k).set a e4)) := by rw [hW5, ← H4.out]; exact H4.out ▸ HO4.out.1
          have hgr5 : w4.grownBy W5 (some gr) := by rw [hW5]; exact H4.out ▸ HO4.out.2
          have hC5 := HC4.out.grown hgr5 (by simpa using n4)
          have hB5 := hB4.out.grown hgr5 (by have := hB4.out.size; omega) (fun x hx => by injection hx with hx; omega)
          have HO5 := Lib.hid hO5; have HC5 := Lib.hid hC5; have HB5 := Lib.hid hB5
          clear hO5 hgr5 hC5 hB5 hw5 hW5 q0 q1 q2 q3 k0 k1 k2 k3 hfz s0 s1 s2 s3 s4 s5 s6 s7
          have HO6 := HO5; have HC6 := HC5; have HB6 := HB5
          refine (alive7_any _).mono ?_
          rintro e w7 ⟨rfl, hb7⟩
          have HO7 := Lib.hid (own_below HO6.out hb7 (fun q hq => (HO6.out.lt q hq).2))
          have hC7 := HC6.out.below hb7 HC6.out.lt
          have HB7 := Lib.hid (HB6.out.trans (hb7.mono HB6.out.size))
          have z := hC7.cell
          have z0 := z 0; have z1 := z 1; have z2 := z 2; have z3 := z 3; have z4 := z 4; have z5 := z 5; have z6 := z 6; have z7 := z 7
          clear hb7 z hC7
          go_wp2_with fail
          refine (Hck2.out _ HO7.out).mono ?_
          rintro e w8 ⟨rfl, hb8⟩
          have HB8 := Lib.hid (HB7.out.trans (hb8.mono HB7.out.size))
          clear hb8 z0 z1 z2 z3 z4 z5 z6 z7
          go_wp2_with fail
          go_ret
          exact ⟨rfl, HB8.out⟩
        · have d8 : decide ((8 : Int) < (k : Int)) = false := by simp; omega
          rw [if_neg h8] at Hck Hck2
          clear h8
          rw [show validE e4 = validE ⟨id, ty, da, va⟩ from by rw [H4.out]] at Hck2
          cases hv : validE ⟨id, ty, da, va⟩ with
          | true =>
            rw [hv, if_pos rfl] at Hck2
            have Hva := Lib.hid (fun w => by have := Hva.out w; rw [hv] at this; exact this)
            clear hv
            go_wp2_with fail
            refine Hck.out.mono ?_
            rintro e w4 ⟨rfl, hb4⟩
            have hE4 := HE0.out.below hb4 HE0.out.lt
            have q := hE4.cell
            have q0 := q 0; have q1 := q 1; have q2 := q 2; have q3 := q 3
            have k0 := (Hcl.out w4 hb4 (a * 4) (by omega)).trans (evVs_get (evIs k) a 0 _ Hga.out (by omega))
            have k1 := (Hcl.out w4 hb4 (a * 4 + 1) (by omega)).trans (evVs_get (evIs k) a 1 _ Hga.out (by omega))
            have k2 := (Hcl.out w4 hb4 (a * 4 + 2) (by omega)).trans (evVs_get (evIs k) a 2 _ Hga.out (by omega))
            have k3 := (Hcl.out w4 hb4 (a * 4 + 3) (by omega)).trans (evVs_get (evIs k) a 3 _ Hga.out (by omega))
            simp [evC, evI] at k0 k1 k2 k3
            have hfz := Hfz.out w4 hb4
            obtain ⟨s0, s1, s2, s3, s4, s5, s6, s7⟩ := HS.out w4 hb4
            have hO4 := Hset.out w4 hb4.size (own_below HI.out.1 hb4 (fun q hq => (HI.out.1.lt q hq).2))
            have HC4 := Lib.hid (HgB.out w4 hb4)
            have hB4 := Lib.hid (Hb3.out.trans ((HI.out.2.2.trans (hb4.mono (Nat.le_of_lt hgw))).mono (by omega)))
            have HO4 := Lib.hid hO4; have HE4 := Lib.hid hE4
            clear hb4 q hE4 hO4 f0 f1 f2 f3 f4 f5 f6 f7
            go_wp2_with fail
            obtain ⟨W5, hW5⟩ : ∃ W5, W5 = w4.setCells gr (a * 4) (evC ⟨id, ty, da, va⟩) := ⟨_, rfl⟩
            have hw5 : (((w4.setCell ⟨gr, a * 4, none⟩ (.int .i64 id)).setCell ⟨gr, a * 4 + 1, none⟩ (.string ty)).setCell ⟨gr, a * 4 + 2, none⟩ (.string da)).setCell ⟨gr, a * 4 + 3, none⟩ (.float .f64 va) = W5 := hW5.symm
            rw [hw5]
            have hO5 : W5.ownsRow W3.heap.size 33 4 (.slice (some ⟨gr, 0, none⟩) k cr) k (evVs ((evIs k).set a e4)) := by rw [hW5, ← H4.out]; exact H4.out ▸ HO4.out.1
            have hgr5 : w4.grownBy W5 (some gr) := by rw [hW5]; exact H4.out ▸ HO4.out.2
            have hC5 := HC4.out.grown hgr5 (by simpa using n4)
            have hB5 := hB4.out.grown hgr5 (by have := hB4.out.size; omega) (fun x hx => by injection hx with hx; omega)
            have HO5 := Lib.hid hO5; have HC5 := Lib.hid hC5; have HB5 := Lib.hid hB5
            clear hO5 hgr5 hC5 hB5 hw5 hW5 q0 q1 q2 q3 k0 k1 k2 k3 hfz s0 s1 s2 s3 s4 s5 s6 s7
            refine (Hva.out _).mono ?_
            rintro e w6 ⟨rfl, hb6⟩
            have HO6 := Lib.hid (own_below HO5.out hb6 (fun q hq => (HO5.out.lt q hq).2))
            have HC6 := Lib.hid (HC5.out.below hb6 HC5.out.lt)
            have HB6 := Lib.hid (HB5.out.trans (hb6.mono HB5.out.size))
            clear hb6
            go_wp2_with fail
            refine (alive7_any _).mono ?_
            rintro e w7 ⟨rfl, hb7⟩
            have HO7 := Lib.hid (own_below HO6.out hb7 (fun q hq => (HO6.out.lt q hq).2))
            have hC7 := HC6.out.below hb7 HC6.out.lt
            have HB7 := Lib.hid (HB6.out.trans (hb7.mono HB6.out.size))
            have z := hC7.cell
            have z0 := z 0; have z1 := z 1; have z2 := z 2; have z3 := z 3; have z4 := z 4; have z5 := z 5; have z6 := z 6; have z7 := z 7
            clear hb7 z hC7
            go_wp2_with fail
            refine (Hck2.out _ HO7.out).mono ?_
            rintro e w8 ⟨rfl, hb8⟩
            have HB8 := Lib.hid (HB7.out.trans (hb8.mono HB7.out.size))
            clear hb8 z0 z1 z2 z3 z4 z5 z6 z7
            go_wp2_with fail
            go_ret
            exact ⟨rfl, HB8.out⟩
          | false =>
            rw [hv, if_neg (by decide)] at Hck2
            have Hva := Lib.hid (fun w => by have := Hva.out w; rw [hv] at this; exact this)
            clear hv
            go_wp2_with fail
            refine Hck.out.mono ?_
            rintro e w4 ⟨rfl, hb4⟩
            have hE4 := HE0.out.below hb4 HE0.out.lt
            have q := hE4.cell
            have q0 := q 0; have q1 := q 1; have q2 := q 2; have q3 := q 3
            have k0 := (Hcl.out w4 hb4 (a * 4) (by omega)).trans (evVs_get (evIs k) a 0 _ Hga.out (by omega))
            have k1 := (Hcl.out w4 hb4 (a * 4 + 1) (by omega)).trans (evVs_get (evIs k) a 1 _ Hga.out (by omega))
            have k2 := (Hcl.out w4 hb4 (a * 4 + 2) (by omega)).trans (evVs_get (evIs k) a 2 _ Hga.out (by omega))
            have k3 := (Hcl.out w4 hb4 (a * 4 + 3) (by omega)).trans (evVs_get (evIs k) a 3 _ Hga.out (by omega))
            simp [evC, evI] at k0 k1 k2 k3
            have hfz := Hfz.out w4 hb4
            obtain ⟨s0, s1, s2, s3, s4, s5, s6, s7⟩ := HS.out w4 hb4
            have hO4 := Hset.out w4 hb4.size (own_below HI.out.1 hb4 (fun q hq => (HI.out.1.lt q hq).2))
            have HC4 := Lib.hid (HgB.out w4 hb4)
            have hB4 := Lib.hid (Hb3.out.trans ((HI.out.2.2.trans (hb4.mono (Nat.le_of_lt hgw))).mono (by omega)))
            have HO4 := Lib.hid hO4; have HE4 := Lib.hid hE4
            clear hb4 q hE4 hO4 f0 f1 f2 f3 f4 f5 f6 f7
            go_wp2_with fail
            obtain ⟨W5, hW5⟩ : ∃ W5, W5 = w4.setCells gr (a * 4) (evC ⟨id, ty, da, va⟩) := ⟨_, rfl⟩
            have hw5 : (((w4.setCell ⟨gr, a * 4, none⟩ (.int .i64 id)).setCell ⟨gr, a * 4 + 1, none⟩ (.string ty)).setCell ⟨gr, a * 4 + 2, none⟩ (.string da)).setCell ⟨gr, a * 4 + 3, none⟩ (.float .f64 va) = W5 := hW5.symm
            rw [hw5]
            have hO5 : W5.ownsRow W3.heap.size 33 4 (.slice (some ⟨gr, 0, none⟩) k cr) k (evVs ((evIs k).set a e4)) := by rw [hW5, ← H4.out]; exact H4.out ▸ HO4.out.1
            have hgr5 : w4.grownBy W5 (some gr) := by rw [hW5]; exact H4.out ▸ HO4.out.2
            have hC5 := HC4.out.grown hgr5 (by simpa using n4)
            have hB5 := hB4.out.grown hgr5 (by have := hB4.out.size; omega) (fun x hx => by injection hx with hx; omega)
            have HO5 := Lib.hid hO5; have HC5 := Lib.hid hC5; have HB5 := Lib.hid hB5
            clear hO5 hgr5 hC5 hB5 hw5 hW5 q0 q1 q2 q3 k0 k1 k2 k3 hfz s0 s1 s2 s3 s4 s5 s6 s7
            refine (Hva.out _).mono ?_
            rintro e w6 ⟨rfl, hb6⟩
            have HO6 := Lib.hid (own_below HO5.out hb6 (fun q hq => (HO5.out.lt q hq).2))
            have HC6 := Lib.hid (HC5.out.below hb6 HC5.out.lt)
            have HB6 := Lib.hid (HB5.out.trans (hb6.mono HB5.out.size))
            clear hb6
            go_wp2_with fail
            refine (alive7_any _).mono ?_
            rintro e w7 ⟨rfl, hb7⟩
            have HO7 := Lib.hid (own_below HO6.out hb7 (fun q hq => (HO6.out.lt q hq).2))
            have hC7 := HC6.out.below hb7 HC6.out.lt
            have HB7 := Lib.hid (HB6.out.trans (hb7.mono HB6.out.size))
            have z := hC7.cell
            have z0 := z 0; have z1 := z 1; have z2 := z 2; have z3 := z 3; have z4 := z 4; have z5 := z 5; have z6 := z 6; have z7 := z 7
            clear hb7 z hC7
            go_wp2_with fail
            refine (Hck2.out _ HO7.out).mono ?_
            rintro e w8 ⟨rfl, hb8⟩
            have HB8 := Lib.hid (HB7.out.trans (hb8.mono HB7.out.size))
            clear hb8 z0 z1 z2 z3 z4 z5 z6 z7
            go_wp2_with fail
            go_ret
            exact ⟨rfl, HB8.out⟩
end Go.Proofs.Ytfpalamoaflilaa
