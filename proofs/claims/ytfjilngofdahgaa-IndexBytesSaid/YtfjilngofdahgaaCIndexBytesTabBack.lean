/- chapter 12: slices.Backward; Final. -/
import Derived.Test.YtfjilngofdahgaaJIndexBytes3
import Derived.RangeFuncNested
import Derived.RangeFuncBound
import Derived.RangeFuncCalls
import Derived.RangeFuncLeaves
import Derived.Shelf.Abstract
import Derived.Shelf.RegionOpen
import Derived.WalkKit
import Derived.OwnWalkIn
import Derived.TacticsInMore
import Derived.LoopNIn
import Derived.LoopIn

namespace Go.Proofs.Ytfjilngofdahgaa
open Go.RowKit Go.Shelf
attribute [local go_sem] Oper.semAt_some
set_option maxHeartbeats 4000000
set_option maxRecDepth 100000
set_option linter.unusedVariables false

/-- what has come behind k rounds -/
def uptoB (es : List En) (k : Nat) : List (Nat × En) := (List.range k).map fun j => (es.length - 1 - j, es[es.length - 1 - j]?.getD (0, 0, 0))
theorem uptoB_succ (es : List En) (k : Nat) : uptoB es (k + 1) = uptoB es k ++ [(es.length - 1 - k, es[es.length - 1 - k]?.getD (0, 0, 0))] := by simp [uptoB, List.range_succ]
theorem uptoB_length (es : List En) (k : Nat) : (uptoB es k).length = k := by simp [uptoB]

theorem back1_in (F : Fence) (m : Nat) (hf : F.fn 79) (hro : F.round = none) (hm : 1 ≤ m) (l Bs n₀ n c : Nat) (A : Option Addr) (es : List En) (J Jx : List (Nat × En) → World → Prop)
    (hY : ∀ pre x W, J pre W → pre.length < n → YieldAt F (m - 1) Try.prog l #[.int .i64 (x.1 : Int), enA x.2] W fun e W' =>
      (e = .returned (.bool true) ∧ J (pre ++ [x]) W' ∧ Below n₀ W W') ∨ (e = .returned (.bool false) ∧ Jx (pre ++ [x]) W'))
    (W : World) (hBs : W.cell? ⟨Bs, 0, none⟩ = some (.slice A n c)) (hBn : Bs < n₀) (hr : SlR W n₀ 3 A n (enVs es)) (hn : n ≤ 1000000) (h0 : J [] W) :
    CallsIn F m Try.prog 79 #[.func (.yield l) #[] #[], .pointer (some ⟨Bs, 0, none⟩)] W fun e W' => (∃ v, e = .returned v) ∧
      ((∃ ys, ys = uptoB es n ∧ J ys W') ∨ (∃ pre, (∃ k, k ≤ n ∧ pre = uptoB es k) ∧ Jx pre W')) := by
  have hl : es.length = n := by have := hr.len; rw [enVs_length] at this; omega
  have Hr := Lib.hid hr; have HY := Lib.hid hY
  clear hr hY
  refine callsIn_of_wp Try.func79 rfl hf ?_ hro
  simp only [Try.ntmps79, List.size_toArray, List.length_cons, List.length_nil, Nat.reduceAdd, Nat.reduceSub, Array.replicate_succ, Array.replicate_zero, List.push_toArray, List.append_toArray, List.nil_append, List.cons_append]
  gi_wp2
  gi_loopw [3] (fun i wr => ∃ (k : Nat) (z : Int), k ≤ n ∧ z = (n : Int) - 1 - (k : Int) ∧ i = .int .i64 z ∧ J (uptoB es k) wr ∧ Below n₀ W wr)
    (fun i _ => (intOf i + 1).toNat)
  case atStart => exact ⟨0, _, Nat.zero_le _, by omega, rfl, h0, Below.refl _ _⟩
  case round =>
    obtain ⟨k, z, hk, hz, rfl, hJs, hnx⟩ := hrel
    by_cases hlt : k < n
    · obtain ⟨j, hj⟩ : ∃ j : Nat, n = k + 1 + j := ⟨n - (k + 1), by omega⟩
      obtain rfl : z = (j : Int) := by omega
      obtain ⟨ad, ⟨p0, p1, p2⟩, rfl, hadB, hpq, hat⟩ := Hr.out.en (k := j) (by omega)
      have hat1 := hat.below hnx (by rw [add_block]; exact hadB)
      obtain ⟨hc0, hc1, hc2⟩ := hat1
      dsimp only at hc0 hc1 hc2
      have hfk : (es.length - 1 - k, es[es.length - 1 - k]?.getD (0, 0, 0)) = (j, (p0, p1, p2)) := by
        rw [show es.length - 1 - k = j from by omega, hpq]; rfl
      obtain ⟨fn, tmps, assign, body, hy, hR⟩ := HY.out _ (j, (p0, p1, p2)) wr hJs (by rw [uptoB_length]; exact hlt)
      have hsc := uptoB_succ es k
      rw [hfk] at hsc
      rw [← hsc] at hR
      unfold enA at hy
      dsimp only at hy
      have hBs' := (hnx.cell (p := ⟨Bs, 0, none⟩) hBn).trans hBs
      have hjn : (j : Int) < (n : Int) := by omega
      have Hnx := Lib.hid hnx; have Hj := Lib.hid hj
      clear hnx hsc hfk hat hpq hz hj
      gi_wp2
      refine hR.mono ?_
      rintro e W3 (⟨rfl, hJ3, hk3⟩ | ⟨rfl, hJx3⟩)
      · gi_wp2
        go_roundw
        case rel => exact ⟨k + 1, (j : Int) - 1, by omega, by have := Hj.out; omega, by go_num, hJ3, Hnx.out.trans hk3⟩
        case measure => simp [intOf]
      · gi_wp2
        refine bodyPost_ret (results_none rfl _ _ _) rfl ?_
        exact ⟨⟨_, rfl⟩, .inr ⟨_, ⟨k + 1, by omega, rfl⟩, hJx3⟩⟩
    · obtain rfl : k = n := by omega
      have hz' : ¬ (0 ≤ z) := by omega
      clear hz
      gi_wp2
      go_end0
      exact ⟨⟨_, rfl⟩, .inl (by first | exact hJs | exact ⟨_, rfl, hJs⟩)⟩

theorem back_in (F : Fence) (m : Nat) (hf : F.fn 62) (hro : F.round = none) (A : Option Addr) (n c : Nat) (w : World) :
    CallsIn F m Try.prog 62 #[.slice A n c] w fun e w' => e = .returned (.func (.func 79) #[] #[.pointer (some ⟨w.heap.size, 0, none⟩)]) ∧ w' = w.alloc (.cells #[.slice A n c] 32) := by
  refine callsIn_of_wp Try.func62 rfl hf ?_ hro
  simp only [Try.ntmps62, List.size_toArray, List.length_cons, List.length_nil, Nat.reduceAdd, Nat.reduceSub, Array.replicate_succ, Array.replicate_zero, List.push_toArray, List.append_toArray, List.nil_append, List.cons_append]
  gi_wp2
  go_ret
  exact ⟨rfl, rfl⟩

theorem back_stops (F : Fence) (m : Nat) (hf : F.fn 79) (hro : F.round = none) (hm : 1 ≤ m) (Bs n₀ n c : Nat) (A : Option Addr) (es : List En) (w : World) (hBn : Bs < n₀) (hn₀ : n₀ ≤ w.heap.size)
    (hBs : w.cell? ⟨Bs, 0, none⟩ = some (.slice A n c)) (hr : SlR w n₀ 3 A n (enVs es)) (hn : n ≤ 1000000) :
    SeqStopsK F m Try.prog 79 #[.pointer (some ⟨Bs, 0, none⟩)] (fun x : Nat × En => #[Value.int .i64 (x.1 : Int), enA x.2]) (Below n₀) (fun ys => ys = uptoB es n)
      (fun pre => ∃ k, k ≤ n ∧ pre = uptoB es k) n w := fun l J Jx W hW _ _ hY h0 =>
  back1_in F m hf hro hm l Bs n₀ n c A es J Jx hY W ((hW.cell (p := ⟨Bs, 0, none⟩) (by show Bs < _; omega)).trans hBs) hBn (hr.below (hW.mono hn₀)) hn h0

theorem last_hit {es : List En} {j : Nat} {e : En} {h : Int} (he : es[j]? = some e) (hh : e.1 = h) (hn : ∀ i, j < i → ∀ x, es[i]? = some x → x.1 ≠ h) : lastE es h = some e := by
  have hj := (List.getElem?_eq_some_iff.1 he).1
  have h2 : (es.drop (j + 1)).filter (fun e => decide (e.1 = h)) = [] := by
    rw [List.filter_eq_nil_iff]
    intro x hx
    obtain ⟨i, hi⟩ := List.getElem?_of_mem hx
    rw [List.getElem?_drop] at hi
    simpa using hn _ (by omega) x hi
  unfold lastE
  rw [← List.take_append_drop (j + 1) es, List.filter_append, h2, List.append_nil, List.take_add_one, he, List.filter_append]
  simp [hh]
theorem last_none {es : List En} {h : Int} (hn : ∀ x ∈ es, x.1 ≠ h) : lastE es h = none := by
  unfold lastE
  have h2 : es.filter (fun e => decide (e.1 = h)) = [] := by
    rw [List.filter_eq_nil_iff]
    intro x hx
    simpa using hn x hx
  rw [h2]; rfl
theorem upto_mem {es : List En} {k i : Nat} {x : En} (hi : es[i]? = some x) (hk : es.length ≤ i + k) : (i, x) ∈ uptoB es k := by
  have hl := (List.getElem?_eq_some_iff.1 hi).1
  unfold uptoB
  rw [List.mem_map]
  refine ⟨es.length - 1 - i, by rw [List.mem_range]; omega, ?_⟩
  rw [show es.length - 1 - (es.length - 1 - i) = i from by omega, hi]
  rfl
theorem upto_last {es : List En} {k : Nat} {ini : List (Nat × En)} {last : Nat × En} (h : uptoB es k = ini ++ [last]) (hk : k ≤ es.length) : es[last.1]? = some last.2 ∧ ∀ i, last.1 < i → ∀ x, es[i]? = some x → (i, x) ∈ ini := by
  obtain ⟨k', rfl⟩ : ∃ k', k = k' + 1 := by
    cases k with
    | zero => simp [uptoB] at h
    | succ k' => exact ⟨k', rfl⟩
  rw [uptoB_succ] at h
  obtain ⟨rfl, e⟩ := List.append_inj' h rfl
  have e2 : (es.length - 1 - k', es[es.length - 1 - k']?.getD (0, 0, 0)) = last := by simpa using e
  subst e2
  refine ⟨?_, fun i hi x hx => upto_mem hx (by dsimp only at hi; omega)⟩
  dsimp only
  rw [List.getElem?_eq_getElem (by omega)]
  rfl

theorem blk_own {β : Type} (B : Nat) (t : TypeId) (f : β → Array Value) : Own (fun s W => BlkIs W B t (f s)) := fun s X Y row hs hg hrow => by
  have := hg.block B hs.lt (fun e' => by obtain ⟨o, ho, hc⟩ := hrow B e'.symm; rw [show X.heap[B]? = _ from hs] at ho; cases ho; cases hc)
  exact this.trans hs

theorem final_in (F : Fence) (m : Nat) (h1 : F.fn 40) (h2 : F.fn 62) (h3 : F.fn 79) (hro : F.round = none) (hm : 6 ≤ m) (A : Option Addr) (n c B : Nat) (es : List En) (h : Int) (w : World) (hr : SlR w B 3 A n (enVs es)) (hB : B ≤ w.heap.size) (hn : n ≤ 1000000) :
    CallsIn F m Try.prog 40 #[.slice A n c, .int .i64 h] w fun e W' => e = .returned (.tuple #[enA ((lastE es h).getD (0, 0, 0)), .bool (lastE es h).isSome]) ∧ Below w.heap.size w W' := by
  have hm1 : 1 ≤ m := by omega
  have hl : es.length = n := by have := hr.len; rw [enVs_length] at this; omega
  refine callsIn_of_wp_marks Try.func40 rfl h1 ?_ hro
  simp only [Try.ntmps40, List.size_toArray, List.length_cons, List.length_nil, Nat.reduceAdd, Nat.reduceSub, Array.replicate_succ, Array.replicate_zero, List.push_toArray, List.append_toArray, List.nil_append, List.cons_append]
  gi_wp2_with (gi_at_call 62; refine (back_in F (m - 1) h2 hro _ _ _ _).mono ?_; rintro e w' ⟨rfl, rfl⟩)
  have Hr := Lib.hid hr; have Hl := Lib.hid hl
  clear hr hl
  obtain ⟨H0, hH0⟩ : ∃ H0, H0 = w.heap.size := ⟨_, rfl⟩
  obtain ⟨W0, hW0⟩ : ∃ W0, (((w.alloc (.cells #[.int .i64 h] 3)).alloc (.cells #[.int .i64 0, .int .i64 0, .int .i64 0] 27)).alloc (.cells #[.bool false] 4)).alloc (.cells #[.slice A n c] 32) = W0 := ⟨_, rfl⟩
  have b0 : BlkIs W0 H0 3 #[.int .i64 h] := by rw [← hW0, hH0]; exact (((BlkIs.new _ _ _).alloc _).alloc _).alloc _
  have b1 : BlkIs W0 (H0 + 1) 27 #[.int .i64 0, .int .i64 0, .int .i64 0] := by
    rw [← hW0, hH0]; have := ((BlkIs.new (w.alloc (.cells #[.int .i64 h] 3)) 27 #[.int .i64 0, .int .i64 0, .int .i64 0]).alloc (.cells #[.bool false] 4)).alloc (.cells #[.slice A n c] 32); simpa using this
  have b2 : BlkIs W0 (H0 + 1 + 1) 4 #[.bool false] := by
    rw [← hW0, hH0]; have := (BlkIs.new ((w.alloc (.cells #[.int .i64 h] 3)).alloc (.cells #[.int .i64 0, .int .i64 0, .int .i64 0] 27)) 4 #[.bool false]).alloc (.cells #[.slice A n c] 32); simpa using this
  have b3 : BlkIs W0 (H0 + 1 + 1 + 1) 32 #[.slice A n c] := by
    rw [← hW0, hH0]; have := BlkIs.new (((w.alloc (.cells #[.int .i64 h] 3)).alloc (.cells #[.int .i64 0, .int .i64 0, .int .i64 0] 27)).alloc (.cells #[.bool false] 4)) 32 #[.slice A n c]; simpa using this
  have hB0 : Below H0 w W0 := by rw [← hW0, hH0]; exact ((((Below.refl _ _).alloc (Nat.le_refl _) _).alloc (by simp) _).alloc (by simp; omega) _).alloc (by simp; omega) _
  have hsz : W0.heap.size = H0 + 4 := by rw [← hW0, hH0]; simp
  rw [hW0]
  simp only [← hH0]
  have HH := Lib.hid hH0; have Hsz := Lib.hid hsz
  clear hW0
  have hr0 := (Hr.out.below (hB0.mono (show B ≤ H0 by omega))).more (show B ≤ W0.heap.size by omega)
  have hlt3 : H0 + 1 + 1 + 1 < W0.heap.size := by omega
  have hle0 : H0 ≤ W0.heap.size := by omega
  clear hH0 hsz
  refine wpIn_rangeFunc_ownH hro hm1 (gf := 79) (lb := #[.pointer (some ⟨H0 + 1 + 1 + 1, 0, none⟩)]) rfl h3 (enters_of Try.func79 (by kernel_rfl) rfl)
    (back_stops F (m - 1) h3 hro (by omega) (H0 + 1 + 1 + 1) W0.heap.size n c A es W0 hlt3 (Nat.le_refl _) (b3.cell 0) hr0 hn) belowK_t (belowK_b (Nat.le_refl _)) (Below.refl _ _) (fun _ => rfl)
    (fun pre W => (((∀ p ∈ pre, p.2.1 ≠ h) ∧ BlkIs W H0 3 #[.int .i64 h]) ∧ (BlkIs W (H0 + 1) 27 #[.int .i64 0, .int .i64 0, .int .i64 0] ∧ BlkIs W (H0 + 1 + 1) 4 #[.bool false])) ∧ Below W0.heap.size W0 W)
    (fun c pre W => (c = .ret ∧ ∃ ini last, pre = ini ++ [last] ∧ (∀ p ∈ ini, p.2.1 ≠ h) ∧ last.2.1 = h ∧ BlkIs W (H0 + 1) 27 #[.int .i64 last.2.1, .int .i64 last.2.2.1, .int .i64 last.2.2.2] ∧ BlkIs W (H0 + 1 + 1) 4 #[.bool true]) ∧ Below H0 w W)
    (OwnFrom.and (OwnFrom.and (OwnFrom.and (ownFrom_pure _ _) (Own.from (blk_own _ _ _) _)) (OwnFrom.and (Own.from (blk_own _ _ _) _) (Own.from (blk_own _ _ _) _))) (ownFrom_below (Nat.le_refl _) (Nat.le_refl _)))
    (fun c => OwnFrom.and (Own.from (fun s X Y row hs hg hrw => by
      obtain ⟨hc, ini, last, e1, e2, e3, e4, e5⟩ := hs
      exact ⟨hc, ini, last, e1, e2, e3, blk_own _ _ (fun (_ : Unit) => _) () X Y row e4 hg hrw, blk_own _ _ (fun (_ : Unit) => _) () X Y row e5 hg hrw⟩) _) (ownFrom_below (Nat.le_of_eq HH.out) hle0))
    ⟨⟨⟨by simp, b0⟩, b1, b2⟩, Below.refl _ _⟩
    (fun x a' W => ∃ Bx, H0 + 1 + 1 < Bx ∧ BlkIs W Bx 27 #[.int .i64 x.2.1, .int .i64 x.2.2.1, .int .i64 x.2.2.2] ∧ a' = { tmps := #[.slice A n c, .int .i64 h, undef, .pointer (some ⟨H0, 0, none⟩), .pointer (some ⟨H0 + 1, 0, none⟩), .pointer (some ⟨H0 + 1 + 1, 0, none⟩), undef, .pointer (some ⟨Bx, 0, none⟩), .slice A n c, .func (.func 79) #[] #[.pointer (some ⟨H0 + 1 + 1 + 1, 0, none⟩)], .int .i64 (x.1 : Int), enA x.2, undef, undef, undef, undef, undef, undef], defers := [] })
    (fun x a' _ X Y row hs hg hrw => by obtain ⟨Bx, e1, e2, e3⟩ := hs; exact ⟨Bx, e1, blk_own Bx _ (fun (_ : Unit) => _) () X Y row e2 hg (fun r e => (hrw r e).2), e3⟩)
    ?assign ?body ?done ?stop
  case assign =>
    rintro l pre ⟨j, p0, p1, p2⟩ W K ⟨⟨⟨hp, c0⟩, c1, c2⟩, hB1⟩ hK
    unfold enA
    dsimp only
    gi_wp2
    exact hK _ _ ((KeepsOthers.alloc _ _).from _) ((Below.refl _ W).alloc hB1.size _) ⟨⟨⟨hp, c0.alloc _⟩, c1.alloc _, c2.alloc _⟩, hB1.alloc hB1.size _⟩ ⟨W.heap.size, c2.lt, BlkIs.new _ _ _, rfl⟩
  case body =>
    rintro l pre ⟨j, p0, p1, p2⟩ a' W hl ⟨r, hrl⟩ ⟨⟨⟨hp, c0⟩, c1, c2⟩, hB1⟩ ⟨Bx, hBx, bX, rfl⟩ hlt
    have d0 := c0.cell 0
    have d1 := bX.cell 0
    have d2 := bX.cell 1
    have d3 := bX.cell 2
    dsimp only at d0 d1 d2 d3
    have e0 := c1.cell 0
    have e1 := c1.cell 1
    have e2 := c1.cell 2
    have e3 := c2.cell 0
    have f0 := c1.free 0
    have f1 := c1.free 1
    have f2 := c1.free 2
    have f3 := c2.free 0
    gi_wp2
    · rename_i hx
      have hx' : p0 = h := eq_of_beq hx
      have g1 : BlkIs ((((W.setCell ⟨H0 + 1, 0, none⟩ (.int .i64 p0)).setCell ⟨H0 + 1, 1, none⟩ (.int .i64 p1)).setCell ⟨H0 + 1, 2, none⟩ (.int .i64 p2)).setCell ⟨H0 + 1 + 1, 0, none⟩ (.bool true)) (H0 + 1) 27 #[.int .i64 p0, .int .i64 p1, .int .i64 p2] := (((c1.put 0 _).put 1 _).put 2 _).far (by simp) _
      have g2 : BlkIs ((((W.setCell ⟨H0 + 1, 0, none⟩ (.int .i64 p0)).setCell ⟨H0 + 1, 1, none⟩ (.int .i64 p1)).setCell ⟨H0 + 1, 2, none⟩ (.int .i64 p2)).setCell ⟨H0 + 1 + 1, 0, none⟩ (.bool true)) (H0 + 1 + 1) 4 #[.bool true] := (((c2.far (p := ⟨H0 + 1, 0, none⟩) (by simp) _).far (p := ⟨H0 + 1, 1, none⟩) (by simp) _).far (p := ⟨H0 + 1, 2, none⟩) (by simp) _).put 0 _
      have hBw := hB0.trans (hB1.mono hle0)
      exact ⟨((((KeepsOthers.setCell _ _ _).trans (KeepsOthers.setCell _ _ _)).trans (KeepsOthers.setCell _ _ _)).trans (KeepsOthers.setCell _ _ _)).from _, ⟨rfl, pre, j, p0, p1, p2, rfl, fun i a b d hp' => hp (i, a, b, d) hp', hx', g1, g2⟩, (((hBw.setCell (p := ⟨H0 + 1, 0, none⟩) (by simp) _).setCell (p := ⟨H0 + 1, 1, none⟩) (by simp) _).setCell (p := ⟨H0 + 1, 2, none⟩) (by simp) _).setCell (p := ⟨H0 + 1 + 1, 0, none⟩) (by show H0 ≤ H0 + 1 + 1; omega) _⟩
    · rename_i hx
      have hx' : p0 ≠ h := by simpa using hx
      exact ⟨KeepsFrom.refl _ _, Below.refl _ _, ⟨⟨fun i a b d hp' => (List.mem_append.1 hp').elim (hp (i, a, b, d)) (fun e => by simp at e; obtain ⟨_, rfl, _, _⟩ := e; exact hx'), c0⟩, c1, c2⟩, hB1⟩
  case done =>
    rintro D ys W hD rfl ⟨⟨⟨hp, c0⟩, c1, c2⟩, hB1⟩ hK
    have e0 := c1.cell 0
    have e1 := c1.cell 1
    have e2 := c1.cell 2
    have e3 := c2.cell 0
    have f0 := c1.free 0
    have f1 := c1.free 1
    have f2 := c1.free 2
    have f3 := c2.free 0
    gi_wp2
    have hBw := hB0.trans (hB1.mono hle0)
    have g1 : BlkIs ((((W.setCell ⟨H0 + 1, 0, none⟩ (.int .i64 0)).setCell ⟨H0 + 1, 1, none⟩ (.int .i64 0)).setCell ⟨H0 + 1, 2, none⟩ (.int .i64 0)).setCell ⟨H0 + 1 + 1, 0, none⟩ (.bool false)) (H0 + 1) 27 #[.int .i64 0, .int .i64 0, .int .i64 0] := (((c1.put 0 _).put 1 _).put 2 _).far (by simp) _
    have g2 : BlkIs ((((W.setCell ⟨H0 + 1, 0, none⟩ (.int .i64 0)).setCell ⟨H0 + 1, 1, none⟩ (.int .i64 0)).setCell ⟨H0 + 1, 2, none⟩ (.int .i64 0)).setCell ⟨H0 + 1 + 1, 0, none⟩ (.bool false)) (H0 + 1 + 1) 4 #[.bool false] := (((c2.far (p := ⟨H0 + 1, 0, none⟩) (by simp) _).far (p := ⟨H0 + 1, 1, none⟩) (by simp) _).far (p := ⟨H0 + 1, 2, none⟩) (by simp) _).put 0 _
    have hBv : Below H0 w ((((W.setCell ⟨H0 + 1, 0, none⟩ (.int .i64 0)).setCell ⟨H0 + 1, 1, none⟩ (.int .i64 0)).setCell ⟨H0 + 1, 2, none⟩ (.int .i64 0)).setCell ⟨H0 + 1 + 1, 0, none⟩ (.bool false)) := (((hBw.setCell (p := ⟨H0 + 1, 0, none⟩) (by simp) _).setCell (p := ⟨H0 + 1, 1, none⟩) (by simp) _).setCell (p := ⟨H0 + 1, 2, none⟩) (by simp) _).setCell (p := ⟨H0 + 1 + 1, 0, none⟩) (by show H0 ≤ H0 + 1 + 1; omega) _
    have hK' := ((((KeepsOthers.setCell W ⟨H0 + 1, 0, none⟩ (.int .i64 0)).trans (KeepsOthers.setCell _ ⟨H0 + 1, 1, none⟩ (.int .i64 0))).trans (KeepsOthers.setCell _ ⟨H0 + 1, 2, none⟩ (.int .i64 0))).trans (KeepsOthers.setCell _ ⟨H0 + 1 + 1, 0, none⟩ (.bool false))).same D _ hK rfl
    generalize (((W.setCell ⟨H0 + 1, 0, none⟩ (.int .i64 0)).setCell ⟨H0 + 1, 1, none⟩ (.int .i64 0)).setCell ⟨H0 + 1, 2, none⟩ (.int .i64 0)).setCell ⟨H0 + 1 + 1, 0, none⟩ (.bool false) = V at g1 g2 hBv hK' ⊢
    refine ⟨by simp, .inl ⟨_, _, rfl, run_takeDeferred hK', ?_⟩⟩
    have q1 := (g1.grown (grownBy_putObj' V D (.deferred none)) (by intro e; injection e with e; omega)).cell
    have q2 := (g2.grown (grownBy_putObj' V D (.deferred none)) (by intro e; injection e with e; omega)).cell
    have q10 := q1 0; have q11 := q1 1; have q12 := q1 2; have q20 := q2 0
    have hno : lastE es h = none := last_none fun x hx => by
      obtain ⟨i, hi⟩ := List.getElem?_of_mem hx
      exact hp (i, x) (upto_mem hi (by have := Hl.out; omega))
    refine ⟨.tuple #[enA (0, 0, 0), .bool false], ?_, by rw [hno]; rfl, by rw [← HH.out]; exact hBv.trans (belowK_b (w := w) (Nat.le_of_eq HH.out) V D _ _ (by rw [← HH.out]; omega) hK' rfl rfl)⟩
    simp [results, Try.f40, go_sem, q10, q11, q12, q20, enA]
  case stop =>
    rintro D cc pre W hD ⟨k, hk, hpre⟩ ⟨⟨rfl, ini, last, e1, e2, e3, c1, c2⟩, hB1⟩ hK
    gi_wp2
    refine ⟨by simp, .inl ⟨_, _, rfl, run_takeDeferred hK, ?_⟩⟩
    have q1 := (c1.grown (grownBy_putObj' W D (.deferred none)) (by intro e; injection e with e; omega)).cell
    have q2 := (c2.grown (grownBy_putObj' W D (.deferred none)) (by intro e; injection e with e; omega)).cell
    have q10 := q1 0; have q11 := q1 1; have q12 := q1 2; have q20 := q2 0
    obtain ⟨i, p0, p1, p2⟩ := last
    obtain ⟨k1, k2⟩ := upto_last (hpre.symm.trans e1) (by have := Hl.out; omega)
    have hyes : lastE es h = some (p0, p1, p2) := last_hit k1 e3 fun i' hi' x hx => e2 _ (k2 i' hi' x hx)
    refine ⟨.tuple #[enA (p0, p1, p2), .bool true], ?_, by rw [hyes]; rfl, by rw [← HH.out]; exact hB1.trans (belowK_b (w := w) (Nat.le_of_eq HH.out) W D _ _ (by rw [← HH.out]; omega) hK rfl rfl)⟩
    dsimp only at q10 q11 q12
    simp [results, Try.f40, go_sem, q10, q11, q12, q20, enA]

theorem final_any (A : Option Addr) (n c B : Nat) (es : List En) (h : Int) (w : World) (hr : SlR w B 3 A n (enVs es)) (hB : B ≤ w.heap.size) (hn : n ≤ 1000000) :
    Calls Try.prog 40 #[.slice A n c, .int .i64 h] w fun e W' => e = .returned (.tuple #[enA ((lastE es h).getD (0, 0, 0)), .bool (lastE es h).isSome]) ∧ Below w.heap.size w W' :=
  callsIn_wide.1 (final_in Fence.wide 6 trivial trivial trivial rfl (Nat.le_refl _) A n c B es h w hr hB hn)
end Go.Proofs.Ytfjilngofdahgaa
