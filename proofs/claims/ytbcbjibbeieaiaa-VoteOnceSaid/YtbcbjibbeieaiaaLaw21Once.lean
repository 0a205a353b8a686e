/- chapter 21: VoteOnce, walked. -/
import Derived.Test.YtbcbjibbeieaiaaLaw21
import Derived.Test.YtbcbjibbeieaiaaTwoRows
import Derived.Test.YtbcbjibbeieaiaaSliceStep
import Derived.Deep.RegionHeld3
import Derived.BigRegion
import Derived.RegionTactic
import Derived.Deep.DeepCutAuto
import Derived.Deep.CutBlock
namespace Go.Proofs.Ytbcbjibbeieaiaa
open Go.RowKit
set_option maxHeartbeats 8000000
set_option maxRecDepth 100000
set_option linter.unusedVariables false

/-- ballots as cells -/
def balVs (l : List (Int × Int)) : List Value := (l.map fun b => [Value.int .i64 b.1, .int .i64 b.2]).flatten
theorem balVs_snoc (l : List (Int × Int)) (b : Int × Int) : balVs (l ++ [b]) = balVs l ++ [.int .i64 b.1, .int .i64 b.2] := by
  unfold balVs
  rw [List.map_append, List.flatten_append]
  simp
theorem balVs_length (l : List (Int × Int)) : (balVs l).length = 2 * l.length := by
  induction l with
  | nil => rfl
  | cons b l ih => unfold balVs at ih ⊢; rw [List.map_cons, List.flatten_cons, List.length_append, ih, List.length_cons]; simp; omega
theorem balVs_get : ∀ (l : List (Int × Int)) (m : Nat) (b : Int × Int), l[m]? = some b → (balVs l)[m * 2]? = some (.int .i64 b.1) ∧ (balVs l)[m * 2 + 1]? = some (.int .i64 b.2)
  | [], m, b, h => by simp at h
  | c :: l, 0, b, h => by simp at h; subst h; simp [balVs]
  | c :: l, m + 1, b, h => by
    have := balVs_get l m b (by simpa using h)
    unfold balVs at this ⊢
    rw [List.map_cons, List.flatten_cons, show (m + 1) * 2 = m * 2 + 2 from by omega]
    constructor
    · rw [List.getElem?_append_right (by simp)]; simpa using this.1
    · rw [List.getElem?_append_right (by simp)]; simpa using this.2
/-- three numbers a piece -/
def triVs (l : List (Int × Int × Int)) : List Value := (l.map fun a => [Value.int .i64 a.1, .int .i64 a.2.1, .int .i64 a.2.2]).flatten
theorem triVs_get : ∀ (l : List (Int × Int × Int)) (m : Nat) (a : Int × Int × Int), l[m]? = some a → (triVs l)[m * 3]? = some (.int .i64 a.1) ∧ (triVs l)[m * 3 + 1]? = some (.int .i64 a.2.1) ∧ (triVs l)[m * 3 + 2]? = some (.int .i64 a.2.2)
  | [], m, b, h => by simp at h
  | c :: l, 0, b, h => by simp at h; subst h; simp [triVs]
  | c :: l, m + 1, b, h => by
    have := triVs_get l m b (by simpa using h)
    unfold triVs at this ⊢
    rw [List.map_cons, List.flatten_cons, show (m + 1) * 3 = m * 3 + 3 from by omega]
    refine ⟨?_, ?_, ?_⟩
    · rw [List.getElem?_append_right (by simp)]; simpa using this.1
    · rw [List.getElem?_append_right (by simp <;> omega)]; simpa [show m * 3 + 3 + 1 - 3 = m * 3 + 1 from by omega] using this.2.1
    · rw [List.getElem?_append_right (by simp <;> omega)]; simpa [show m * 3 + 3 + 2 - 3 = m * 3 + 2 from by omega] using this.2.2
theorem info_bal1 : (Try.prog.info? 32).map (fun i => (i.zero, i.size, i.bytes)) = some (some (.agg #[.int .i64 0, .int .i64 0]), 2, 16) := by kernel_rfl

theorem add_nextO (a : Addr) (i j : Nat) (hj : 0 < j) : (⟨(a.add i).block, (a.add i).off + j, none⟩ : Addr) = a.add (i + j) := by
  unfold Addr.add
  by_cases h : i = 0
  · subst h; simp [show j ≠ 0 by omega]
  · simp [h, Nat.add_assoc, show i + j ≠ 0 by omega]
/-- what is so ahead of each ask -/
def Once (k m : Nat) (bl gl : List (Int × Int)) (T F : Int) : Prop :=
  bl.length = k ∧ gl.length = m ∧ m ≤ k ∧ (∀ b ∈ bl, rightV b = true) ∧ bl.getLast?.getD (0, -1) = (T, F) ∧ Granted (T, F) gl ∧ 0 ≤ T ∧ T ≤ 7 + (k : Int) ∧ -1 ≤ F ∧ F ≤ 3

theorem far_two {w : World} {g : Nat} {p : Addr} {u v0 v1 : Value} (h : w.cell? p = some u) (hp : p.block ≠ g) : ((w.setCell ⟨g, 0, none⟩ v0).setCell ⟨g, 1, none⟩ v1).cell? p = some u :=
  (World.cell?_setCell_other _ _ _ _ (fun e => hp (by rw [← e]))).trans ((World.cell?_setCell_other _ _ _ _ (fun e => hp (by rw [← e]))).trans h)
theorem grown_then {a b c : World} {row : Option Nat} (h : a.grownBy b row) (h2 : b.grownBy c row) : a.grownBy c row :=
  ⟨h2.os.trans h.os, h2.tape.trans h.tape, h2.output.trans h.output, Nat.le_trans h.size h2.size, fun k hk hne => (h2.block k (Nat.lt_of_lt_of_le hk h.size) hne).trans (h.block k hk hne)⟩
theorem grown_of {w w' : World} {row : Option Nat} (h : Below w.heap.size w w') : w.grownBy w' row := ⟨h.os, h.tape, h.output, h.size, fun k hk _ => h.block k hk⟩
/-- what is so behind an ask: the ballot that was, the one that is, whether it was granted -/
def Mid (k : Nat) (gl : List (Int × Int)) (bT T F : Int) (o : Bool) : Prop :=
  Granted (T, F) gl ∧ bT ≤ T ∧ T ≤ 8 + (k : Int) ∧ -1 ≤ F ∧ F ≤ 3 ∧ (o = true → 0 ≤ F)
theorem mid_ask {k : Nat} {gl : List (Int × Int)} {bT bF X Y Z cT cF : Int} {ok : Bool} (hg : Granted (bT, bF) gl) (hT : 0 ≤ bT ∧ bT ≤ 7 + (k : Int)) (hF : -1 ≤ bF ∧ bF ≤ 3) (hX : 0 ≤ X ∧ X ≤ 7) (hY : 0 ≤ Y ∧ Y ≤ 3)
    (h : askL (bT, bF) X Y Z 5 1 5 = ((cT, cF), ok)) : Mid k gl bT cT cF ok ∧ cT ≤ 7 + (k : Int) := by
  have h1 := granted_ask hg X Y Z 5 1 5 hY.1
  have h2 := ask_le (bT, bF) X Y Z 5 1 5
  have h3 := ask_for (bT, bF) X Y Z 5 1 5
  rw [h] at h1 h2 h3
  simp only [] at h2 h3
  have h4 : cT ≤ 7 + (k : Int) ∧ -1 ≤ cF ∧ cF ≤ 3 := by
    have hsee : (seeL (bT, bF) X).1 ≤ 7 + (k : Int) ∧ -1 ≤ (seeL (bT, bF) X).2 ∧ (seeL (bT, bF) X).2 ≤ 3 := by
      unfold seeL
      split <;> (simp only []; omega)
    unfold askL at h
    generalize seeL (bT, bF) X = sb at h hsee
    split at h
    · simp only [Prod.mk.injEq] at h
      obtain ⟨rfl, _⟩ := h
      exact hsee
    · simp only [Prod.mk.injEq] at h
      obtain ⟨⟨h, h'⟩, _⟩ := h
      omega
  exact ⟨⟨h1, h2, by omega, h4.2.1, h4.2.2, fun ho => by have := h3 ho; omega⟩, h4.1⟩
theorem mid_stand {k : Nat} {gl : List (Int × Int)} {bT cT cF Y : Int} {ok : Bool} (h : Mid k gl bT cT cF ok) (h7 : cT ≤ 7 + (k : Int)) (hk : k ≤ 40) (hY : 0 ≤ Y ∧ Y ≤ 3) : standL (cT, cF) Y = (cT + 1, Y) ∧ Mid k gl bT (cT + 1) Y true := by
  obtain ⟨h1, h2, h3, h4, h5, h6⟩ := h
  have hs : standL (cT, cF) Y = (cT + 1, Y) := by
    unfold standL
    rw [if_neg (by simp only []; omega), if_neg (by simp only []; omega)]
  have hg := granted_stand h1 Y (by simp only []; omega)
  rw [hs] at hg
  exact ⟨hs, hg, by omega, by omega, by omega, by omega, fun _ => by omega⟩

theorem voteOnce_any (A : Option Addr) (n cap : Nat) (qs : List (Int × Int × Int)) (w : World) (hl : qs.length = n) (hr : SlR w w.heap.size 3 A n (triVs qs)) (hn : n ≤ 9223372036854775807) :
    Calls Try.prog 7 #[.slice A n cap] w fun e w' => e = .returned (.bool true) ∧ Below w.heap.size w w' := by
  by_cases t0 : n ≤ 40
  · obtain ⟨j0, hj0, hy0, hy1, hy2⟩ := info_parts info_bal1
    obtain ⟨wm, hmk, hom, hgm⟩ := run_make_own (P := Try.prog) (w.alloc (.cells #[.int .i64 0, .int .i64 (-1)] 32)) (w.heap.size + 1) 29 32 j0 _ 2 Try.underlying29 hj0 hy0 hy1 .i64 .i64 40 (by rw [hy2]; decide) (by decide) (by simp)
    rw [show (w.alloc (.cells #[.int .i64 0, .int .i64 (-1)] 32)).heap.size = w.heap.size + 1 from by simp] at hom
    have hB := (BlkIs.new w 32 #[.int .i64 0, .int .i64 (-1)]).grown hgm (by simp)
    have hbm : Below w.heap.size w wm := ((Below.refl _ _).alloc (Nat.le_refl _) _).grown hgm (by simp <;> omega) (by simp)
    have Hl := Lib.hid hl; have Hr := Lib.hid hr; have Hom := Lib.hid hom; have HB := Lib.hid hB; have Hbm := Lib.hid hbm
    clear hl hr hom hB hbm
    have hmk : (Instr.makeSlice 29 (.int .i64 0) (.int .i64 40)).run Try.prog (w.alloc (.cells #[.int .i64 0, .int .i64 (-1)] 32)) = _ := hmk
    go_enter Try.func7, Try.ntmps7
    go_wp2_with fail
    go_loopw [4, 5, 6] (fun gr fl i wr => ∃ (k m : Nat) (v : Value) (bl gl : List (Int × Int)) (bT bF : Int), v = gr ∧ k ≤ n ∧ i = .int .i64 k ∧ fl = .string ⟨(layAll (bl.map ballotL)).toArray⟩ ∧ Once k m bl gl bT bF ∧
      BlkIs wr w.heap.size 32 #[.int .i64 bT, .int .i64 bF] ∧ wr.ownsRow (w.heap.size + 1) 32 2 v m (balVs gl) ∧ Below w.heap.size w wr) (fun _ _ i _ => n - (intOf i).toNat)
    case atStart => exact ⟨0, 0, _, [], [], 0, -1, rfl, Nat.zero_le _, rfl, by simp [layAll], ⟨rfl, rfl, Nat.le_refl _, by simp, rfl, (by intro g hg; cases hg), by omega, by omega, by omega, by omega⟩, HB.out, Hom.out, Hbm.out⟩
    case round =>
      obtain ⟨k, m, v, bl, gl, bT, bF, rfl, hk, rfl, rfl, honce, hB, hown, hb⟩ := hrel
      by_cases hlt : k < n
      · obtain ⟨q, hq⟩ : ∃ q, qs[k]? = some q := ⟨_, List.getElem?_eq_getElem (by rw [Hl.out]; exact hlt)⟩
        obtain ⟨ad, hA, had, hcells⟩ := (Hr.out.below hb).cells (by omega)
        subst hA
        obtain ⟨g0, g1, g2⟩ := triVs_get qs k q hq
        have hc0 := hcells _ _ g0
        have hc1 := hcells _ _ g1
        have hc2 := hcells _ _ g2
        obtain ⟨x, y, z⟩ := q
        simp only [] at hc0 hc1 hc2
        rw [← add_nextO _ _ _ (by omega)] at hc1 hc2
        have i1 : (k : Int) < (n : Int) := by omega
        have i0 : 0 ≤ (k : Int) := by omega
        obtain ⟨o1, o2, o3, o4, o5, o6, o7, o8, o9, o10⟩ := honce
        have Ho4 := Lib.hid o4; have Ho5 := Lib.hid o5; have Ho6 := Lib.hid o6; have Ho1 := Lib.hid o1; have Ho2 := Lib.hid o2
        obtain ⟨A4, c4, rfl, hc4⟩ := own_slice hown
        have HB1 := Lib.hid hB; have Hown := Lib.hid hown
        have hb0 := hB.cell 0
        have hb1 := hB.cell 1
        simp at hb0 hb1
        have hlt0 := hB.lt
        clear hq hcells g0 g1 g2 o4 o5 o6 o1 o2 hB hown
        obtain ⟨X, hX⟩ : ∃ X, bits .and .i64 x 7 = X := ⟨_, rfl⟩
        obtain ⟨Y, hY⟩ : ∃ Y, bits .and .i64 y 3 = Y := ⟨_, rfl⟩
        obtain ⟨Z, hZ⟩ : ∃ Z, bits .and .i64 z 3 = Z := ⟨_, rfl⟩
        have hX1 : 0 ≤ bits .and .i64 x 7 ∧ bits .and .i64 x 7 ≤ 7 := mask_range x 7 (by decide)
        have hY1 : 0 ≤ bits .and .i64 y 3 ∧ bits .and .i64 y 3 ≤ 3 := mask_range y 3 (by decide)
        rw [hX] at hX1
        rw [hY] at hY1
        obtain ⟨cT, cF, ok, hask⟩ : ∃ cT cF ok, askL (bT, bF) X Y Z 5 1 5 = ((cT, cF), ok) := ⟨_, _, _, rfl⟩
        have HX := Lib.hid hX; have HY := Lib.hid hY; have HZ := Lib.hid hZ; have Hask := Lib.hid hask
        clear hX hY hZ hask
        obtain ⟨wp, hwp⟩ : ∃ wp, (wr.alloc (.cells #[.int .i64 bT, .int .i64 bF] 32)).alloc (.cells #[.int .i64 0, .int .i64 0] 32) = wp := ⟨_, rfl⟩
        have hps : wp.heap.size = wr.heap.size + 2 := by rw [← hwp]; simp
        have hX2 : BlkIs wp wr.heap.size 32 #[.int .i64 bT, .int .i64 bF] := by rw [← hwp]; exact (BlkIs.new wr _ _).alloc _
        have hX3 : BlkIs wp (wr.heap.size + 1) 32 #[.int .i64 0, .int .i64 0] := by
          have := BlkIs.new (wr.alloc (.cells #[.int .i64 bT, .int .i64 bF] 32)) 32 #[.int .i64 0, .int .i64 0]
          rw [hwp] at this
          simpa using this
        have hpr : Below wr.heap.size wr wp := by rw [← hwp]; exact ((Below.refl _ _).alloc (Nat.le_refl _) _).alloc (by simp) _
        have hadw : ad.block < wr.heap.size := Nat.lt_of_lt_of_le had hb.size
        have hadb : (ad.add (k * 3)).block < wr.heap.size := by rw [add_block]; exact hadw
        have hS : ∀ wx, Below wr.heap.size wr wx → wx.cell? (ad.add (k * 3)) = some (.int .i64 x) ∧ wx.cell? ⟨(ad.add (k * 3)).block, (ad.add (k * 3)).off + 1, none⟩ = some (.int .i64 y) ∧ wx.cell? ⟨(ad.add (k * 3)).block, (ad.add (k * 3)).off + 2, none⟩ = some (.int .i64 z) ∧ wx.cell? ⟨w.heap.size, 0, none⟩ = some (.int .i64 bT) ∧ wx.cell? ⟨w.heap.size, 1, none⟩ = some (.int .i64 bF) := by
          intro wx h2
          exact ⟨(h2.cell (p := ad.add (k * 3)) hadb).trans hc0, (h2.cell (p := ⟨(ad.add (k * 3)).block, (ad.add (k * 3)).off + 1, none⟩) hadb).trans hc1, (h2.cell (p := ⟨(ad.add (k * 3)).block, (ad.add (k * 3)).off + 2, none⟩) hadb).trans hc2, (h2.cell (p := ⟨w.heap.size, 0, none⟩) hlt0).trans hb0, (h2.cell (p := ⟨w.heap.size, 1, none⟩) hlt0).trans hb1⟩
        have hK : ∀ (wx wq : World), Below wq.drew.heap.size wq.drew wx → (wq = wr.alloc (.cells #[.int .i64 bT, .int .i64 bF] 32) ∨ wq = wp) → (wq.heap.size ≤ wx.heap.size ∧ Below wr.heap.size wr wx ∧ BlkIs wx wr.heap.size 32 #[.int .i64 bT, .int .i64 bF] ∧ (wq = wp → BlkIs wx (wr.heap.size + 1) 32 #[.int .i64 0, .int .i64 0])) ∧ wx.cell? (ad.add (k * 3)) = some (.int .i64 x) ∧ wx.cell? ⟨(ad.add (k * 3)).block, (ad.add (k * 3)).off + 1, none⟩ = some (.int .i64 y) ∧ wx.cell? ⟨(ad.add (k * 3)).block, (ad.add (k * 3)).off + 2, none⟩ = some (.int .i64 z) ∧ wx.cell? ⟨w.heap.size, 0, none⟩ = some (.int .i64 bT) ∧ wx.cell? ⟨w.heap.size, 1, none⟩ = some (.int .i64 bF) := by
          intro wx wq hbx0 hor
          have hbx : Below wq.heap.size wq wx := below_undrew hbx0
          clear hbx0
          rcases hor with rfl | rfl
          · have hsz : (wr.alloc (.cells #[.int .i64 bT, .int .i64 bF] 32)).heap.size = wr.heap.size + 1 := by simp
            have h1 := hbx.size
            rw [hsz] at hbx h1 ⊢
            have h2 := ((Below.refl wr.heap.size wr).alloc (Nat.le_refl _) (.cells #[.int .i64 bT, .int .i64 bF] 32)).trans (hbx.mono (by omega))
            exact ⟨⟨h1, h2, (BlkIs.new wr _ _).below hbx (by omega), fun h => by rw [← h] at hps; simp at hps⟩, hS wx h2⟩
          · have h1 := hbx.size
            rw [hps] at hbx h1 ⊢
            have h2 := hpr.trans (hbx.mono (by omega))
            exact ⟨⟨h1, h2, hX2.below hbx (by omega), fun _ => hX3.below hbx (by omega)⟩, hS wx h2⟩
        rw [← hwp] at hK
        have HK := Lib.hid hK
        clear hK hS hX2 hX3 hpr hps hwp
        obtain ⟨hmid, hc7⟩ := mid_ask (k := k) Ho6.out ⟨o7, o8⟩ ⟨o9, o10⟩ hX1 hY1 Hask.out
        have Hmid := Lib.hid hmid
        clear hmid
        have hsr := BlkIs.lt HB1.out
        have hn0 : (ad.add (k * 3)).block ≠ wr.heap.size + 1 := by omega
        have hn1 : w.heap.size ≠ wr.heap.size + 1 := by omega
        go_upto_region 10 with fail
        go_cut [8, 9] (fun s8 s9 wx => ∃ g8, s8 = .pointer (some ⟨g8, 0, none⟩) ∧ s9 = .bool ok ∧ BlkIs wx wr.heap.size 32 #[.int .i64 bT, .int .i64 bF] ∧ BlkIs wx g8 32 #[.int .i64 cT, .int .i64 cF] ∧ wr.heap.size < g8 ∧ Below wr.heap.size wr wx)
        case first =>
          go_region_held3 (fun wx => wx.cell? (ad.add (k * 3)) = some (.int .i64 x) ∧ wx.cell? ⟨(ad.add (k * 3)).block, (ad.add (k * 3)).off + 1, none⟩ = some (.int .i64 y) ∧ wx.cell? ⟨(ad.add (k * 3)).block, (ad.add (k * 3)).off + 2, none⟩ = some (.int .i64 z) ∧ wx.cell? ⟨w.heap.size, 0, none⟩ = some (.int .i64 bT) ∧ wx.cell? ⟨w.heap.size, 1, none⟩ = some (.int .i64 bF))
            (first | go_keep | exact ⟨far_two hk0 hn0, far_two hk1 hn0, far_two hk2 hn0, far_two hk3 hn1, far_two hk4 hn1⟩ | exact ⟨hk0, hk1, hk2, hk3, hk4⟩)
            ((go_at_call 13; refine (ask_any bT bF _ _ _ 5 1 5 _).mono ?_; rintro e w1 ⟨rfl, hb1⟩; rw [HX.out, HY.out, HZ.out, Hask.out]; obtain ⟨⟨hs1, hbr, hW1, hX3⟩, hk0, hk1, hk2, hk3, hk4⟩ := HK.out w1 _ hb1 (by first | exact .inl rfl | exact .inr rfl); (first | (have hX4 := hX3 rfl; have q0 := hX4.cell 0; have q1 := hX4.cell 1; have f0 := hX4.free 0; have f1 := hX4.free 1; have l8 := hX4.lt; simp at q0 q1; clear hX3) | skip)))
          all_goals
            go_wp2_with fail
            go_meet
            first
              | exact ⟨wr.heap.size + 1, rfl, rfl, (hW1.far (by simp) _).far (by simp) _, (hX4.put 0 _).put 1 _, by omega, (hbr.setCell (p := ⟨wr.heap.size + 1, 0, none⟩) (by simp) _).setCell (p := ⟨wr.heap.size + 1, 1, none⟩) (by simp) _⟩
              | exact ⟨w1.heap.size, rfl, rfl, hW1.alloc _, BlkIs.new _ _ _, by simp at hs1; omega, hbr.alloc hbr.size _⟩
        case rest =>
          obtain ⟨g8, rfl, rfl, hW7, hC8, hg8, hbr⟩ := hcut
          have hc0' := (hbr.cell (p := ad.add (k * 3)) hadb).trans hc0
          have hc1' := (hbr.cell (p := ⟨(ad.add (k * 3)).block, (ad.add (k * 3)).off + 1, none⟩) hadb).trans hc1
          have hB3 := HB1.out.below hbr hlt0
          have hp0 := hC8.cell 0
          have hp1 := hC8.cell 1
          have hq0 := hB3.cell 0
          have hq1 := hB3.cell 1
          have hf0 := hB3.free 0
          have hf1 := hB3.free 1
          have hl3 := hB3.lt
          have hl8 := hC8.lt
          simp at hp0 hp1 hq0 hq1
          obtain ⟨wd, hwd⟩ : ∃ wd, (wc.setCell ⟨w.heap.size, 0, none⟩ (.int .i64 cT)).setCell ⟨w.heap.size, 1, none⟩ (.int .i64 cF) = wd := ⟨_, rfl⟩
          have hB3d : BlkIs wd w.heap.size 32 #[.int .i64 cT, .int .i64 cF] := by rw [← hwd]; exact (hB3.put 0 _).put 1 _
          have hW7d : BlkIs wd wr.heap.size 32 #[.int .i64 bT, .int .i64 bF] := by rw [← hwd]; exact (hW7.far (by simp; omega) _).far (by simp; omega) _
          have hC8d : BlkIs wd g8 32 #[.int .i64 cT, .int .i64 cF] := by rw [← hwd]; exact (hC8.far (by simp; omega) _).far (by simp; omega) _
          have hgd : wr.grownBy wd (some w.heap.size) := by rw [← hwd]; exact grown_then (grown_of hbr) (grown_then (grown_set _ _ _ _) (grown_set _ _ _ _))
          have hx64 : wd.cell? (ad.add (k * 3)) = some (.int .i64 x) := by rw [← hwd]; exact far_two hc0' (by rw [add_block]; omega)
          have hy64 : wd.cell? ⟨(ad.add (k * 3)).block, (ad.add (k * 3)).off + 1, none⟩ = some (.int .i64 y) := by rw [← hwd]; exact far_two hc1' (by rw [add_block]; omega)
          have HW7 := Lib.hid hW7d; have HC8 := Lib.hid hC8d; have HB3 := Lib.hid hB3d; have Hgd := Lib.hid hgd; have Hwd := Lib.hid hwd; have Hx64 := Lib.hid hx64; have Hy64 := Lib.hid hy64
          clear hW7 hC8 hB3 hW7d hC8d hB3d hgd hc1' hwd hc0 hc1 hc2 hb0 hb1 hx64 hy64
          have hxe : ((wc.setCell ⟨w.heap.size, 0, none⟩ (.int .i64 cT)).setCell ⟨w.heap.size, 1, none⟩ (.int .i64 cF)).cell? (ad.add (k * 3)) = some (.int .i64 x) := far_two hc0' (by rw [add_block]; omega)
          clear hc0'
          go_upto_if 59 with fail
          rw [Hwd.out]
          go_cut [9] (fun s9 wx => ∃ (o : Bool) (T F : Int), s9 = .bool o ∧ BlkIs wx w.heap.size 32 #[.int .i64 T, .int .i64 F] ∧ BlkIs wx wr.heap.size 32 #[.int .i64 bT, .int .i64 bF] ∧ BlkIs wx g8 32 #[.int .i64 cT, .int .i64 cF] ∧ wr.grownBy wx (some w.heap.size) ∧ Hid (Mid k gl bT T F o))
          case first =>
            by_cases hst : (bits .and .i64 x 64 == 64) = true
            · obtain ⟨hs, hms⟩ := mid_stand Hmid.out hc7 (by omega) hY1
              have hsr0 := HB3.out.cell 0
              have hsr1 := HB3.out.cell 1
              have hsf0 := HB3.out.free 0
              simp at hsr0 hsr1
              have hyy := Hy64.out
              have Hs := Lib.hid hs; have Hms := Lib.hid hms
              have hdl := HB3.out.lt
              have hct : -9223372036854775808 ≤ cT ∧ cT ≤ 9223372036854775807 := ⟨by have := Int.le_trans o7 Hmid.out.2.1; omega, by omega⟩
              clear hs hms
              go_wp2_with fail
              go_region_with (go_at_call 21; refine (stand_any cT cF _ _ hct).mono ?_; rintro e w2 ⟨rfl, hb2⟩; rw [HY.out, Hs.out]; have hbd : Below wd.heap.size wd w2 := (below_undrew hb2); have h20 := (hbd.cell (p := ⟨w.heap.size, 0, none⟩) hdl).trans hsr0; have h21 := (hbd.cell (p := ⟨w.heap.size, 1, none⟩) hdl).trans hsr1; have hl2 := HB3.out.below hbd hdl; have hf20 := hl2.free 0; have hf21 := hl2.free 1; have hl20 := hl2.lt)
              all_goals
                go_wp2_with fail
                go_meet
                exact ⟨true, cT + 1, Y, rfl, (hl2.put 0 _).put 1 _, ((HW7.out.below hbd HW7.out.lt).far (by simp; omega) _).far (by simp; omega) _, ((HC8.out.below hbd HC8.out.lt).far (by simp; omega) _).far (by simp; omega) _, grown_then Hgd.out (grown_then (grown_of hbd) (grown_then (grown_set _ _ _ _) (grown_set _ _ _ _))), Hms.out⟩
            · have hst' : (bits .and .i64 x 64 == 64) = false := by simpa using hst
              clear hst
              go_wp2_with fail
              go_meet
              exact ⟨ok, cT, cF, rfl, HB3.out, HW7.out, HC8.out, Hgd.out, Hmid.out⟩
          case rest =>
            obtain ⟨o, T, F, rfl, hB5, hW5, hC5, hg5, Hmid5⟩ := hcut
            have hTb : bT ≤ T := Hmid5.out.2.1
            have hTu : T ≤ 8 + (k : Int) := Hmid5.out.2.2.1
            have hF0 : -1 ≤ F := Hmid5.out.2.2.2.1
            have hF3 : F ≤ 3 := Hmid5.out.2.2.2.2.1
            have hdl : decide (T < bT) = false := by simpa using hTb
            have hq0 := hB5.cell 0
            have hq1 := hB5.cell 1
            have hw0 := hW5.cell 0
            simp at hq0 hq1 hw0
            have hon5 := own_grown Hown.out hg5 (fun g hg => by have := (Hown.out.lt g hg).1; simp; omega)
            have hbw5 : Below w.heap.size w wc := hb.grown hg5 hb.size (fun g hg => by simp at hg; omega)
            have hsl5 := SlR.own hon5
            have Hon5 := Lib.hid hon5; have Hbw5 := Lib.hid hbw5; have HB5 := Lib.hid hB5; have HW5 := Lib.hid hW5; have HC5 := Lib.hid hC5; have Hsl5 := Lib.hid hsl5; have Hg5 := Lib.hid hg5
            have hc5l := hbw5.size
            clear hon5 hbw5 hB5 hW5 hC5 hsl5 hg5
            go_upto_if 73 with fail
            go_cut [4] (fun s4 wx => ∃ (A5 : Option Addr) (m5 c5 : Nat) (gl5 : List (Int × Int)), s4 = .slice A5 m5 c5 ∧ wx.ownsRow (w.heap.size + 1) 32 2 (.slice A5 m5 c5) m5 (balVs gl5) ∧ BlkIs wx w.heap.size 32 #[.int .i64 T, .int .i64 F] ∧ BlkIs wx wr.heap.size 32 #[.int .i64 bT, .int .i64 bF] ∧ BlkIs wx g8 32 #[.int .i64 cT, .int .i64 cF] ∧ Below w.heap.size w wx ∧ Hid (Granted (T, F) gl5 ∧ gl5.length = m5 ∧ m5 ≤ k + 1) ∧ Hid (∀ b, (Value.slice A5 m5 c5).ownBlock = some b → b ≠ g8))
            case first =>
              cases o with
              | false =>
                go_wp2_with fail
                go_meet
                exact ⟨A4, m, c4, gl, rfl, Hon5.out, HB5.out, HW5.out, HC5.out, Hbw5.out, Lib.hid ⟨Hmid5.out.1, Ho2.out, by omega⟩, Lib.hid (fun b hb6 => by have := (Hown.out.lt b hb6).2; omega)⟩
              | true =>
                have hFp : 0 ≤ F := Hmid5.out.2.2.2.2.2 rfl
                go_wp2_with fail
                go_loopw [10] (fun i wx => ∃ j q : Nat, j ≤ m ∧ i = .int .i64 j ∧ wx = wc.drewN q) (fun i _ => m - (intOf i).toNat)
                case atStart => exact ⟨0, 0, Nat.zero_le _, rfl, rfl⟩
                case round =>
                  obtain ⟨j, q, hj, rfl, rfl⟩ := hrel
                  by_cases hjm : j < m
                  · obtain ⟨gb, hgb⟩ : ∃ gb, gl[j]? = some gb := ⟨_, List.getElem?_eq_getElem (by rw [Ho2.out]; exact hjm)⟩
                    obtain ⟨ad4, hA4, hb4, hcell4⟩ := Hsl5.out.cells (by omega)
                    subst hA4
                    have hcc := balVs_get gl j gb hgb
                    have e0 := hcell4 _ _ hcc.1
                    have e1 := hcell4 _ _ hcc.2
                    rw [← add_nextO _ _ _ (by omega)] at e1
                    have hgr := Hmid5.out.1 gb (List.mem_of_getElem? hgb)
                    obtain ⟨gT, gF⟩ := gb
                    simp only [] at e0 e1 hgr
                    have j1 : (j : Int) < (m : Int) := by omega
                    have j0' : 0 ≤ (j : Int) := by omega
                    obtain ⟨_, _, hgF⟩ := hgr
                    clear hgb hcell4 hcc hb4
                    by_cases e : gT = T
                    · have e2 := hgF e
                      subst e e2
                      have t1 : (gT == gT) = true := by simp
                      have t2 : (gF != gF) = false := by simp
                      clear hgF
                      go_wp2_with fail
                      go_quiet (fail)
                      go_wp2_with fail
                      go_roundw
                      case rel => exact ⟨j + 1, _, by omega, by go_num, rfl⟩
                      case measure => simp [intOf]; omega
                    · have t1 : (gT == T) = false := by simpa using e
                      clear hgF e
                      go_wp2_with fail
                      go_quiet (fail)
                      go_wp2_with fail
                      go_roundw
                      case rel => exact ⟨j + 1, _, by omega, by go_num, rfl⟩
                      case measure => simp [intOf]; omega
                  · obtain rfl : j = m := by omega
                    have hd : decide (j < j) = false := by simp
                    go_wp2_with (at_builtin; refine wpList_append_lies _ rfl (.tmp 98) (.tmp 100) _ rfl (w.heap.size + 1) 32 j0 _ 2 16 Try.underlying29 hj0 hy0 hy1 hy2 rfl (by omega) (.slice A4 j c4) j (balVs gl) rfl ((own_drewN Hon5.out q).alloc _) ⟨wc.heap.size, 0, none⟩ 1 1 [.int .i64 T, .int .i64 F] rfl rfl (World.news_of_block (cs := #[.int .i64 T, .int .i64 F]) (heap_alloc_new (wc.drewN q) _)) (by simp [Value.oneCell']) (by omega) (by simp only [maxLen]; omega) (by omega) (by have := HB5.out.lt; simp <;> omega) (wc.heap.size + 1) (by simp) ?_; intro g6 c6 w6 hown6 hgrow6 hat6 hlt6)
                    have hr6 : ∀ b, (Value.slice A4 j c4).ownBlock = some b → w.heap.size + 1 ≤ b ∧ b < wc.heap.size := fun b hb6 => ⟨(Hon5.out.lt b hb6).1, (Hon5.out.lt b hb6).2⟩
                    have hr7 : ∀ b, (Value.slice A4 j c4).ownBlock = some b → w.heap.size + 1 ≤ b ∧ b < wr.heap.size := fun b hb6 => ⟨(Hown.out.lt b hb6).1, (Hown.out.lt b hb6).2⟩
                    have hne : ∀ b, b = w.heap.size ∨ wr.heap.size ≤ b → some b ≠ (Value.slice A4 j c4).ownBlock := fun b hb6 e => by have := hr7 b e.symm; omega
                    have hbz := HB5.out.lt
                    go_meet
                    exact ⟨some ⟨g6, 0, none⟩, j + 1, c6, gl ++ [(T, F)], rfl, by rw [balVs_snoc]; exact hown6, (((HB5.out.drewN q).alloc _).grown hgrow6 (hne _ (.inl rfl))), (((HW5.out.drewN q).alloc _).grown hgrow6 (hne _ (.inr (Nat.le_refl _)))), (((HC5.out.drewN q).alloc _).grown hgrow6 (hne _ (.inr (by omega)))),
                      ((below_drewN Hbw5.out q).alloc (by exact hc5l) _).grown hgrow6 (by simp; omega) (fun b hb6 => by have := hr7 b hb6; omega), Lib.hid ⟨granted_new Hmid5.out.1 hFp, by rw [List.length_append, Ho2.out]; rfl, by omega⟩, Lib.hid (fun b hb6 => by
                      have hg6 : b = g6 := by simpa [Value.ownBlock, eq_comm] using hb6
                      subst hg6
                      have h8 := HC5.out.lt
                      rcases hat6 with h | h
                      · have := hr7 b h; omega
                      · omega)⟩
            case rest =>
              obtain ⟨A5, m5, c5, gl5, rfl, hon7, hB7, hW7, hC7, hbw7, Hgr7, Hrow⟩ := hcut
              have hrt : rightV (T, F) = true := by
                unfold rightV
                rw [decide_eq_true_iff]
                show 0 ≤ T ∧ T ≤ 2147483647 ∧ -1 ≤ F ∧ F < 7
                omega
              have hpv : putV (T, F) = (frameL (ballotL (T, F)), 0) := by unfold putV; rw [if_pos hrt]
              have hfl : (frameL (ballotL (T, F))).length = 28 := by rw [frameL_length, ballotL_length]
              obtain ⟨Fr, hFr⟩ : ∃ Fr, frameL (ballotL (T, F)) = Fr := ⟨_, rfl⟩
              rw [hFr] at hpv hfl
              have hbl' : layAll ((bl ++ [(T, F)]).map ballotL) = layAll (bl.map ballotL) ++ Fr := by rw [List.map_append, layAll_append, ← hFr]; simp [layAll]
              have hL : (layAll (bl.map ballotL)).length = 28 * k := by rw [layAll_ballots, Ho1.out]
              have hrall : ∀ b ∈ bl ++ [(T, F)], rightV b = true := fun b hb9 => by
                rcases List.mem_append.1 hb9 with h | h
                · exact Ho4.out b h
                · simp at h; subst h; exact hrt
              have hread1 : readBytes (layAll (bl.map ballotL) ++ Fr) = ((T, F), 28 * (k + 1)) := by
                have := readBytes_all (bl ++ [(T, F)]) hrall
                rw [hbl', List.length_append, Ho1.out] at this
                simpa using this
              have hread2 : readBytes ((layAll (bl.map ballotL) ++ Fr).take (28 * k + 27)) = ((bT, bF), 28 * k) := by
                have := readBytes_kept (bl ++ [(T, F)]) hrall (28 * k + 27) k (by rw [List.length_append, Ho1.out]; omega) (by omega) (by intro _; omega) (by rw [List.length_append, Ho1.out, List.length_singleton]; omega)
                rw [hbl', List.take_left' Ho1.out, Ho5.out] at this
                exact this
              have hF0 : ((Fr.length : Int) == 0) = false := by rw [hfl]; rfl
              have hFs : Fr.length ≤ 28 := by omega
              have hFs2 : 28 ≤ Fr.length := by omega
              obtain ⟨Lf, hLf⟩ : ∃ Lf, layAll (bl.map ballotL) = Lf := ⟨_, rfl⟩
              rw [hLf] at hbl' hL hread1 hread2 ⊢
              have hLs : Lf.length ≤ 1120 := by omega
              have hq0 := hB7.cell 0
              have hq1 := hB7.cell 1
              simp at hq0 hq1
              have Hpv := Lib.hid hpv; have Hfl := Lib.hid hfl; have Hbl := Lib.hid hbl'; have HL := Lib.hid hL; have Hread1 := Lib.hid hread1; have Hread2 := Lib.hid hread2; have Hrall := Lib.hid hrall
              have Hon7 := Lib.hid hon7; have HB7 := Lib.hid hB7; have HW7 := Lib.hid hW7; have HC7 := Lib.hid hC7; have Hbw7 := Lib.hid hbw7
              clear hpv hfl hbl' hL hread1 hread2 hrall hon7 hB7 hW7 hC7 hbw7 hFr hLf hrt
              go_wp2_with fail
              refine (putV_any T F _).mono ?_
              rintro e w8 ⟨rfl, hb8⟩
              rw [Hpv.out]
              have hB8 := HB7.out.below hb8 HB7.out.lt
              have hW8 := HW7.out.below hb8 HW7.out.lt
              have hC8 := HC7.out.below hb8 HC7.out.lt
              have hbw8 := Hbw7.out.trans (hb8.mono Hbw7.out.size)
              have hon8 := own_below Hon7.out hb8 (fun q hq => (Hon7.out.lt q hq).2)
              have HB8 := Lib.hid hB8; have HW8 := Lib.hid hW8; have HC8 := Lib.hid hC8; have Hbw8 := Lib.hid hbw8; have Hon8 := Lib.hid hon8
              clear hB8 hW8 hC8 hbw8 hon8 hb8
              go_wp2_with fail
              refine (voteRead_any _ _ (by rw [ByteArray.size_append, size_mk, size_mk]; omega)).mono ?_
              rintro e w9 ⟨rfl, hb9⟩
              rw [show readBytes (⟨Lf.toArray⟩ ++ ⟨Fr.toArray⟩ : ByteArray).data.toList = ((T, F), 28 * (k + 1)) from by rw [str_append]; exact Hread1.out]
              have hB9 := HB8.out.below hb9 HB8.out.lt
              have hW9 := HW8.out.below hb9 HW8.out.lt
              have hC9 := HC8.out.below hb9 HC8.out.lt
              have hbw9 := Hbw8.out.trans (hb9.mono Hbw8.out.size)
              have hon9 := own_below Hon8.out hb9 (fun q hq => (Hon8.out.lt q hq).2)
              have hp0 := hC9.cell 0
              have hp1 := hC9.cell 1
              have hf0 := hC9.free 0
              have hf1 := hC9.free 1
              have hl9 := hC9.lt
              simp at hp0 hp1
              have HB9 := Lib.hid hB9; have HW9 := Lib.hid hW9; have HC9 := Lib.hid hC9; have Hbw9 := Lib.hid hbw9; have Hon9 := Lib.hid hon9
              clear hB9 hW9 hC9 hbw9 hon9 hb9
              go_wp2_with fail
              refine (voteRead_any _ _ (by rw [ByteArray.size_extract, ByteArray.size_append, size_mk, size_mk]; omega)).mono ?_
              rintro e w10 ⟨rfl, hb10⟩
              rw [show readBytes (((⟨Lf.toArray⟩ ++ ⟨Fr.toArray⟩ : ByteArray)).extract 0 (Lf.length + Fr.length - 1)).data.toList = ((bT, bF), 28 * k) from by
                rw [str_to, str_append, show Lf.length + Fr.length - 1 = 28 * k + 27 from by rw [HL.out, Hfl.out]; omega]
                have := Hread2.out
                simpa using this]
              have hB9' := (HB9.out.far (p := ⟨g8, 0, none⟩) (by simp; omega) (.int .i64 T)).far (p := ⟨g8, 1, none⟩) (by simp; omega) (.int .i64 F)
              have hW9' := (HW9.out.far (p := ⟨g8, 0, none⟩) (by simp; omega) (.int .i64 T)).far (p := ⟨g8, 1, none⟩) (by simp; omega) (.int .i64 F)
              have hC9' := (HC9.out.put 0 (.int .i64 T)).put 1 (.int .i64 F)
              have hB10 := hB9'.below hb10 hB9'.lt
              have hW10 := hW9'.below hb10 hW9'.lt
              have hC10 := hC9'.below hb10 hC9'.lt
              have hgg : w9.grownBy ((w9.setCell ⟨g8, 0, none⟩ (.int .i64 T)).setCell ⟨g8, 1, none⟩ (.int .i64 F)) (some g8) := grown_then (grown_set _ _ _ _) (grown_set _ _ _ _)
              have hgg2 := grown_then hgg (grown_of hb10)
              have hon10 := own_grown Hon9.out hgg2 (fun b hb6 e => Hrow.out b hb6 (by simpa using e.symm))
              have hbw10 : Below w.heap.size w w10 := Hbw9.out.grown hgg2 Hbw9.out.size (fun b hb6 => by simp at hb6; omega)
              have hp0 := hC10.cell 0
              have hp1 := hC10.cell 1
              have hq0 := hB10.cell 0
              have hq1 := hB10.cell 1
              have hv0 := hW10.cell 0
              have hv1 := hW10.cell 1
              have hlb := hB10.lt
              have hlw := hW10.lt
              have hlc := hC10.lt
              simp at hp0 hp1 hq0 hq1 hv0 hv1
              have t1 : (28 * ((k : Int) + 1) != (Lf.length : Int) + (Fr.length : Int)) = false := by rw [HL.out, Hfl.out]; simp; omega
              have t2 : (28 * (k : Int) != (Lf.length : Int)) = false := by rw [HL.out]; simp
              have Hon10 := Lib.hid hon10; have Hbw10 := Lib.hid hbw10; have HB10 := Lib.hid hB10
              clear hB9' hW9' hC9' hB10 hW10 hC10 hgg hgg2 hon10 hbw10 hb10
              go_wp2_with fail
              all_goals
                go_roundw
                case rel =>
                  refine ⟨k + 1, m5, _, bl ++ [(T, F)], gl5, T, F, rfl, by omega, by go_num, by rw [Hbl.out, str_append], ⟨by rw [List.length_append, Ho1.out]; rfl, Hgr7.out.2.1, Hgr7.out.2.2, Hrall.out, by simp, Hgr7.out.1, by omega, by omega, by omega, by omega⟩, HB10.out.alloc _, Hon10.out.alloc _, Hbw10.out.alloc Hbw10.out.size _⟩
                case measure => simp [intOf]; omega
      · obtain rfl : k = n := by omega
        have hd : decide (k < k) = false := by simp
        clear hown hB honce
        go_wp2_with fail
        refine (alive21_any _).mono ?_
        rintro e w1 ⟨rfl, hb1⟩
        go_wp2_with fail
        go_ret
        exact ⟨rfl, hb.trans (hb1.mono hb.size)⟩
  · have n0 : 40 < n := by omega
    clear t0 hl hr
    go_enter Try.func7, Try.ntmps7
    go_wp2_with fail
    refine (alive21_any _).mono ?_
    rintro e w1 ⟨rfl, hb1⟩
    go_wp2_with fail
    go_ret
    exact ⟨rfl, hb1⟩
end Go.Proofs.Ytbcbjibbeieaiaa
