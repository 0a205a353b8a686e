/- The document's own net: Cut. -/
import Derived.Test.YtadhboioaacaeaaRefDbl
namespace Go.Proofs.Ytadhboioaacaeaa
open Go.RowKit
set_option maxHeartbeats 4000000
set_option maxRecDepth 100000
set_option linter.unusedVariables false

theorem run_neq_arr2 (w : World) (x y u v : Int) : (binOp .neq 53 (.agg #[.int .i64 x, .int .i64 y]) (.agg #[.int .i64 u, .int .i64 v])).run Try.prog w = .ok (.bool (!(x == u && y == v))) w := by
  have h := run_eql_arr2 w x y u v
  simp only [binOp] at h ⊢
  cases he : (Op.equal 53 (.agg #[.int .i64 x, .int .i64 y]) (.agg #[.int .i64 u, .int .i64 v])).run Try.prog w with
  | ok b w' =>
    simp [he, Result.andThen] at h ⊢
    obtain ⟨h1, h2⟩ := h
    exact ⟨by simpa using h1, h2⟩
  | halt a b => simp [he, Result.andThen] at h
theorem info_pr : (Try.prog.info? 53).map (fun i => (i.zero, i.size, i.bytes)) = some (some (.agg #[.int .i64 0, .int .i64 0]), 2, 16) := by kernel_rfl

/-- the cuts behind a call of Cut -/
def rcL (cs : List (Int × Int)) (a b : Int) : List (Int × Int) := cs.filter fun c => !decide (c = (a, b)) && !decide (c = (b, a))
def rcutL (cs : List (Int × Int)) (a b : Int) (on : Bool) : List (Int × Int) := if on then rcL cs a b ++ [(a, b)] else rcL cs a b
theorem rcL_take (cs : List (Int × Int)) (a b : Int) (i : Nat) (c : Int × Int) (h : cs[i]? = some c) : rcL (cs.take (i + 1)) a b = rcL (cs.take i) a b ++ (if c = (a, b) ∨ c = (b, a) then [] else [c]) := by
  unfold rcL
  rw [List.take_add_one, h, List.filter_append]
  congr 1
  by_cases h1 : c = (a, b)
  · simp [h1]
  · by_cases h2 : c = (b, a)
    · simp [h2]
    · simp [h1, h2]
theorem rcL_le (cs : List (Int × Int)) (a b : Int) : (rcL cs a b).length ≤ cs.length := List.length_filter_le _ _
theorem refStep_cut {w X w4 : World} {S : Nat → Prop} {g : Nat} {ps : List Pk} {cs' : List (Int × Int)} {n : Nat} {xs : List Value} {v1 v2 v' : Value} (hB : BlkIs X g 42 #[v1, v2]) (h1 : X.ownsRow 0 28 3 v1 ps.length (pkVs ps)) (s1 : S g) (s2 : ∀ x, v1.ownBlock = some x → S x)
    (hC : Chg S w X) (hb : Below X.heap.size X w4) (hown : w4.ownsRow 0 53 2 v' cs'.length (prVs cs')) (hat : ∀ b, v'.ownBlock = some b → X.heap.size ≤ b) :
    RefStep S g w (w4.setCell ⟨g, 1, none⟩ v') ps cs' := by
  have hB4 := hB.below hb hB.lt
  have h14 := own_below h1 hb (fun q hq => (h1.lt q hq).2)
  have hne := own_ne_blk hown hB4 (by decide)
  have hne1 := own_ne_blk h14 hB4 (by decide)
  exact ⟨fun b => S b ∨ w.heap.size ≤ b, ⟨v1, v', hB4.put 1 v', own_far h14 hne1 _, own_far hown hne _, .inl s1, fun x hx => .inl (s2 x hx), fun x hx => .inr (Nat.le_trans hC.size (hat x hx))⟩,
    (hC.under hb hC.size).set (fun _ => s1) _, fun b hb => hb⟩

theorem refCut_any (S : Nat → Prop) (g : Nat) (ps : List Pk) (cs : List (Int × Int)) (a b : Int) (on : Bool) (w : World) (h : RefIs w S g ps cs) (hcs : cs.length ≤ 1000000) :
    Calls Try.prog 24 #[.pointer (some ⟨g, 0, none⟩), .int .i64 a, .int .i64 b, .bool on] w fun e w' => e = .returned (.tuple #[]) ∧ RefStep S g w w' ps (rcutL cs a b on) := by
  obtain ⟨i0, hi0, hz0, hz1, hz2⟩ := info_parts info_pr
  obtain ⟨v1, v2, hB, h1, h2, s1, s2, s3⟩ := id h
  have hg := hB.lt
  obtain ⟨A2, k2, rfl, hk2⟩ := own_slice h2
  have KB : ∀ wx, Below w.heap.size w wx → BlkIs wx g 42 #[v1, .slice A2 cs.length k2] := fun wx hb => hB.below hb hg
  have KE : ∀ wx v' ds, Below w.heap.size w wx → wx.ownsRow w.heap.size 53 2 v' (List.length ds) (prVs ds) → RefStep S g w (wx.setCell ⟨g, 1, none⟩ v') ps ds := fun wx v' ds hb hown =>
    refStep_cut (X := w) (n := 0) (xs := []) hB h1 s1 s2 (Chg.refl _ _) hb (own_base hown (Nat.zero_le _)) (fun b hb => (hown.lt b hb).1)
  have KB1 := Lib.hid KB; have KE1 := Lib.hid KE; have H2 := Lib.hid h2
  have hfb : ∀ wx, Below w.heap.size w wx → True := fun _ _ => trivial
  clear h hB h1 h2 s1 s2 s3 KB KE hfb
  go_enter Try.func24, Try.ntmps24
  go_wp2_with fail
  go_loopw [8, 9] (fun v i wr => ∃ (q : Nat) (lv : Value), q ≤ cs.length ∧ i = .int .i64 q ∧ lv = v ∧ Hid (wr.ownsRow w.heap.size 53 2 lv (rcL (cs.take q) a b).length (prVs (rcL (cs.take q) a b))) ∧ Hid (Below w.heap.size w wr)) (fun _ i _ => cs.length - (intOf i).toNat)
  case atStart => exact ⟨0, .slice none 0 0, Nat.zero_le _, rfl, rfl, Lib.hid (by simpa [rcL, prVs] using World.ownsRow_nil w w.heap.size 53 2), Lib.hid (Below.refl _ _)⟩
  case round =>
    obtain ⟨q, lv, hq, rfl, rfl, HO, Hb⟩ := hrel
    have b1 := (KB1.out wr Hb.out).cell 1
    have f1 := (KB1.out wr Hb.out).free 1
    simp at b1
    have hgr : g < wr.heap.size := Nat.lt_of_lt_of_le hg Hb.out.size
    have Hle : Hid ((rcL (cs.take q) a b).length ≤ cs.length) := Lib.hid (Nat.le_trans (rcL_le (cs.take q) a b) (by rw [List.length_take]; exact Nat.min_le_right _ _))
    by_cases hlt : q < cs.length
    · obtain ⟨c, hc⟩ : ∃ c, cs[q]? = some c := ⟨_, List.getElem?_eq_getElem hlt⟩
      obtain ⟨r, k3, hr, _, hrl⟩ := H2.out.form (by omega)
      simp only [Value.slice.injEq, true_and] at hr
      obtain ⟨rfl, rfl⟩ := hr
      obtain ⟨e0, e1⟩ := prVs_get cs q c hc
      have hrow := own_below H2.out Hb.out (fun b hb => (H2.out.lt b hb).2)
      have q0 := (hrow.cellAt (q * 2) (by omega)).trans e0
      have q1 := (hrow.cellAt (q * 2 + 1) (by omega)).trans e1
      have hst := rcL_take cs a b q c hc
      obtain ⟨x, y⟩ := c
      simp only at q0 q1
      have i0' : (0 : Int) ≤ (q : Int) := by omega
      have i1' : (q : Int) < (cs.length : Int) := by omega
      have hE1 : ∀ w, (binOp .neq 53 (.agg #[.int .i64 x, .int .i64 y]) (.agg #[.int .i64 a, .int .i64 b])).run Try.prog w = .ok (.bool (!(x == a && y == b))) w := fun w => run_neq_arr2 w x y a b
      have hE2 : ∀ w, (binOp .neq 53 (.agg #[.int .i64 x, .int .i64 y]) (.agg #[.int .i64 b, .int .i64 a])).run Try.prog w = .ok (.bool (!(x == b && y == a))) w := fun w => run_neq_arr2 w x y b a
      clear e0 e1 hc hrow
      by_cases h1 : x = a ∧ y = b
      · have d1 : (x == a && y == b) = true := by simpa using h1
        rw [if_pos (.inl (by rw [h1.1, h1.2])), List.append_nil] at hst
        have Hst := Lib.hid hst
        rw [d1] at hE1
        clear h1 d1 hst
        go_wp2_with fail
        go_roundw
        case rel => exact ⟨q + 1, lv, by omega, by go_num, rfl, Lib.hid (by rw [Hst.out]; exact HO.out), Hb⟩
        case measure => simp [intOf] <;> omega
      · have d1 : (x == a && y == b) = false := by simpa using h1
        rw [d1] at hE1
        by_cases h2 : x = b ∧ y = a
        · have d2 : (x == b && y == a) = true := by simpa using h2
          rw [if_pos (.inr (by rw [h2.1, h2.2])), List.append_nil] at hst
          have Hst := Lib.hid hst
          rw [d2] at hE2
          clear h1 h2 d1 d2 hst
          go_wp2_with fail
          go_roundw
          case rel => exact ⟨q + 1, lv, by omega, by go_num, rfl, Lib.hid (by rw [Hst.out]; exact HO.out), Hb⟩
          case measure => simp [intOf] <;> omega
        · have d2 : (x == b && y == a) = false := by simpa using h2
          rw [d2] at hE2
          rw [if_neg (by simp only [Prod.mk.injEq]; rintro (h | h); exact h1 h; exact h2 h)] at hst
          have Hst := Lib.hid hst
          clear h1 h2 d1 d2 hst
          go_wp2_with (at_builtin; refine wpList_append_lies _ rfl (.tmp 43) (.tmp 51) _ rfl w.heap.size 53 i0 _ 2 16 Try.underlying40 hi0 hz0 hz1 hz2 rfl (by omega) lv _ _ rfl (HO.out.alloc _) ⟨wr.heap.size, 0, none⟩ 1 1 [.int .i64 x, .int .i64 y] rfl rfl (World.news_of_block (cs := #[.int .i64 x, .int .i64 y]) (heap_alloc_new wr _)) (by simp [Value.oneCell']) (by omega) (by have := Hle.out; simp only [maxLen]; omega) (by have := Hle.out; omega) (by have := Hb.out.size; simp <;> omega) (wr.heap.size + 1) (by simp) ?_; intro g2 c2 w2 hown2 hg2 hat2 hlt2; have HB2 : Hid (Below w.heap.size w w2) := Lib.hid ((below_new Hb.out (Nat.le_refl _) (.cells #[.int .i64 x, .int .i64 y] 53)).grown hg2 (by have := Hb.out.size; simp <;> omega) (fun q hq => (HO.out.lt q hq).1)); have HO2 := Lib.hid hown2; clear hown2 hg2 hat2)
          go_roundw
          case rel => exact ⟨q + 1, _, by omega, by go_num, rfl, Lib.hid (by rw [Hst.out, List.length_append, prVs_append]; exact HO2.out), HB2⟩
          case measure => simp [intOf] <;> omega
    · obtain rfl : q = cs.length := by omega
      have htk : cs.take cs.length = cs := List.take_of_length_le (Nat.le_refl _)
      rw [htk] at HO Hle
      have hd9 : decide (cs.length < cs.length) = false := by simp
      obtain ⟨A9, c9, rfl, _⟩ := own_slice HO.out
      clear hlt htk
      cases on with
      | false =>
        have hE := KE1.out wr _ _ Hb.out HO.out
        have HE := Lib.hid hE
        clear hE
        go_wp2_with fail
        go_end0
        exact ⟨rfl, HE.out⟩
      | true =>
        obtain ⟨lv, hlv⟩ : ∃ lv, lv = Value.slice A9 (rcL cs a b).length c9 := ⟨_, rfl⟩
        rw [← hlv] at HO
        rw [← hlv]
        clear hlv
        go_wp2_with (first | (at_builtin; refine wpList_append_lies _ rfl (.tmp 54) (.tmp 58) _ rfl w.heap.size 53 i0 _ 2 16 Try.underlying40 hi0 hz0 hz1 hz2 rfl (by omega) lv _ _ rfl (HO.out.alloc _) ⟨wr.heap.size, 0, none⟩ 1 1 [.int .i64 a, .int .i64 b] rfl rfl (World.news_of_block (cs := #[.int .i64 a, .int .i64 b]) (heap_alloc_new wr _)) (by simp [Value.oneCell']) (by omega) (by have := Hle.out; simp only [maxLen]; omega) (by have := Hle.out; omega) (by have := Hb.out.size; simp <;> omega) (wr.heap.size + 1) (by simp) ?_; intro g2 c2 w2 hown2 hg2 hat2 hlt2; have HB2 : Hid (Below w.heap.size w w2) := Lib.hid ((below_new Hb.out (Nat.le_refl _) (.cells #[.int .i64 a, .int .i64 b] 53)).grown hg2 (by have := Hb.out.size; simp <;> omega) (fun q hq => (HO.out.lt q hq).1)); have HF := Lib.hid (KE1.out w2 _ (rcL cs a b ++ [(a, b)]) HB2.out (by rw [List.length_append, prVs_append]; exact hown2)); have d1 := (KB1.out w2 HB2.out).cell 1; have d2 := (KB1.out w2 HB2.out).free 1; simp at d1; clear hown2 hg2 hat2))
        go_end0
        exact ⟨rfl, HF.out⟩
end Go.Proofs.Ytadhboioaacaeaa
