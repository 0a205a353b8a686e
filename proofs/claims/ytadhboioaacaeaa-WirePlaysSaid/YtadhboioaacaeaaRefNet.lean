/- The document's own net: what lies in memory; Has, Send. -/
import Derived.Test.YtadhboioaacaeaaNetSend
import Derived.Test.YtadhboioaacaeaaEql
import Derived.Test.YtadhboioaacaeaaSliceStep
namespace Go.Proofs.Ytadhboioaacaeaa
open Go.RowKit
set_option maxHeartbeats 2000000
set_option maxRecDepth 100000
set_option linter.unusedVariables false

/-- pairs as cells -/
def prVs (cs : List (Int × Int)) : List Value := cs.flatMap fun c => [.int .i64 c.1, .int .i64 c.2]
theorem prVs_append (cs ds : List (Int × Int)) : prVs (cs ++ ds) = prVs cs ++ prVs ds := by simp [prVs]
theorem prVs_length (cs : List (Int × Int)) : (prVs cs).length = cs.length * 2 := by
  induction cs with
  | nil => rfl
  | cons c cs ih => simp only [prVs, List.flatMap_cons, List.length_append, List.length_cons, List.length_nil] at ih ⊢; omega
theorem prVs_get (cs : List (Int × Int)) (i : Nat) (c : Int × Int) (h : cs[i]? = some c) : (prVs cs)[i * 2]? = some (.int .i64 c.1) ∧ (prVs cs)[i * 2 + 1]? = some (.int .i64 c.2) := by
  induction cs generalizing i with
  | nil => simp at h
  | cons d cs ih =>
    cases i with
    | zero =>
      obtain rfl : d = c := by simpa using h
      simp [prVs]
    | succ i =>
      have := ih i (by simpa using h)
      rw [show (i + 1) * 2 = i * 2 + 2 from by omega]
      simpa [prVs] using this
theorem prVs_one (cs : List (Int × Int)) : ∀ u ∈ prVs cs, u.oneCell' = true := by
  intro u hu
  obtain ⟨c, _, h⟩ := List.mem_flatMap.1 hu
  simp at h
  rcases h with rfl | rfl <;> rfl

/-- the document's net at block g: its packets, its cuts, in blocks of S alone -/
def RefIs (w : World) (S : Nat → Prop) (g : Nat) (ps : List Pk) (cs : List (Int × Int)) : Prop :=
  ∃ v1 v2, BlkIs w g 42 #[v1, v2] ∧ w.ownsRow 0 28 3 v1 ps.length (pkVs ps) ∧ w.ownsRow 0 53 2 v2 cs.length (prVs cs) ∧ S g ∧ (∀ x, v1.ownBlock = some x → S x) ∧ (∀ x, v2.ownBlock = some x → S x)
def RefStep (S : Nat → Prop) (g : Nat) (w w' : World) (ps : List Pk) (cs : List (Int × Int)) : Prop :=
  ∃ S', RefIs w' S' g ps cs ∧ Chg S w w' ∧ ∀ b, S' b → S b ∨ w.heap.size ≤ b

section
variable {w w' : World} {S T : Nat → Prop} {g : Nat} {ps : List Pk} {cs : List (Int × Int)}
theorem RefIs.chg (h : RefIs w S g ps cs) (hc : Chg T w w') (hd : ∀ b, b < w.heap.size → S b → ¬ T b) : RefIs w' S g ps cs := by
  obtain ⟨v1, v2, hb, h1, h2, s1, s2, s3⟩ := h
  have hlt1 := h1.lt
  have hlt2 := h2.lt
  exact ⟨v1, v2, hb.chg hc (hd g hb.lt s1), own_chg h1 hc (fun x hx => hd x (hlt1 x hx).2 (s2 x hx)), own_chg h2 hc (fun x hx => hd x (hlt2 x hx).2 (s3 x hx)), s1, s2, s3⟩
theorem RefIs.shrink (h : RefIs w S g ps cs) : RefIs w (fun b => S b ∧ b < w.heap.size) g ps cs := by
  obtain ⟨v1, v2, hb, h1, h2, s1, s2, s3⟩ := h
  have hlt1 := h1.lt
  have hlt2 := h2.lt
  exact ⟨v1, v2, hb, h1, h2, ⟨s1, hb.lt⟩, fun x hx => ⟨s2 x hx, (hlt1 x hx).2⟩, fun x hx => ⟨s3 x hx, (hlt2 x hx).2⟩⟩
theorem RefIs.alloc (h : RefIs w S g ps cs) (o : Obj) : RefIs (w.alloc o) S g ps cs := h.chg (T := fun _ => False) ((Chg.refl _ w).alloc o) (fun _ _ _ h => h)
theorem RefIs.below (h : RefIs w S g ps cs) (hb : Below w.heap.size w w') : RefIs w' S g ps cs := h.chg (T := fun _ => False) (Chg.of_below hb) (fun _ _ _ h => h)
theorem RefIs.same (h : RefIs w S g ps cs) (hb : Below w.heap.size w w') : RefStep S g w w' ps cs := ⟨S, h.below hb, Chg.of_below hb, fun _ hs => .inl hs⟩
theorem RefStep.drew (h : RefStep S g w w' ps cs) : RefStep S g w w'.drew ps cs := by
  obtain ⟨S', h1, h2, h3⟩ := h
  exact ⟨S', h1, h2.drew, h3⟩
theorem own_ne_own {e1 e2 : TypeId} {b1 b2 size1 size2 n1 n2 : Nat} {v1 v2 : Value} {xs1 xs2 : List Value} (h1 : w.ownsRow b1 e1 size1 v1 n1 xs1) (h2 : w.ownsRow b2 e2 size2 v2 n2 xs2) (hne : e1 ≠ e2) (x : Nat) (hx : v1.ownBlock = some x) : v2.ownBlock ≠ some x := by
  intro hx2
  rcases h1.2 with ⟨rfl, _⟩ | ⟨g1, c1, cur1, rfl, _, hh1, _⟩
  · simp [Value.ownBlock] at hx
  · rcases h2.2 with ⟨rfl, _⟩ | ⟨g2, c2, cur2, rfl, _, hh2, _⟩
    · simp [Value.ownBlock] at hx2
    · obtain rfl : g1 = x := by simpa [Value.ownBlock] using hx
      obtain rfl : g2 = g1 := by simpa [Value.ownBlock] using hx2
      rw [hh1] at hh2
      injection hh2 with hh2
      injection hh2 with _ ht
      exact hne ht
/-- a new list of packets stored -/
theorem refStep_row {X w4 : World} {v1 v2 v' : Value} {ps' : List Pk} (hB : BlkIs X g 42 #[v1, v2]) (h2 : X.ownsRow 0 53 2 v2 cs.length (prVs cs)) (s1 : S g) (s3 : ∀ x, v2.ownBlock = some x → S x)
    (hC : Chg S w X) (hb : Below X.heap.size X w4) (hown : w4.ownsRow 0 28 3 v' ps'.length (pkVs ps')) (hat : ∀ b, v'.ownBlock = some b → X.heap.size ≤ b) :
    RefStep S g w (w4.setCell ⟨g, 0, none⟩ v') ps' cs := by
  have hB4 := hB.below hb hB.lt
  have h24 := own_below h2 hb (fun q hq => (h2.lt q hq).2)
  have hne := own_ne_blk hown hB4 (by decide)
  have hne2 := own_ne_blk h24 hB4 (by decide)
  exact ⟨fun b => S b ∨ w.heap.size ≤ b, ⟨v', v2, hB4.put 0 v', own_far hown hne _, own_far h24 hne2 _, .inl s1, fun x hx => .inr (Nat.le_trans hC.size (hat x hx)), fun x hx => .inl (s3 x hx)⟩,
    (hC.under hb hC.size).set (fun _ => s1) _, fun b hb => hb⟩
end

theorem refHas_any (S : Nat → Prop) (g : Nat) (ps : List Pk) (cs : List (Int × Int)) (j : Int) (w : World) (h : RefIs w S g ps cs) :
    Calls Try.prog 26 #[.pointer (some ⟨g, 0, none⟩), .int .i64 j] w fun e w' => e = .returned (.bool (hasB ps j)) ∧ w = w' := by
  obtain ⟨v1, v2, hB, hr, _⟩ := h
  have hc0 := hB.cell 0
  obtain ⟨A, c, rfl, hnc⟩ := own_slice hr
  simp at hc0
  clear hB hr
  by_cases h1 : 0 ≤ j
  · by_cases h2 : j < (ps.length : Int)
    · have hv : hasB ps j = true := by unfold hasB; simp; omega
      rw [hv]
      have d1 : decide (0 ≤ j) = true := by simpa using h1
      have d2 : decide (j < (ps.length : Int)) = true := by simpa using h2
      clear hv
      go_enter Try.func26, Try.ntmps26
      go_wp2_with fail
      go_ret
      exact ⟨rfl, rfl⟩
    · have hv : hasB ps j = false := by unfold hasB; simp; omega
      rw [hv]
      have d1 : decide (0 ≤ j) = true := by simpa using h1
      have d2 : decide (j < (ps.length : Int)) = false := by simpa using h2
      clear hv
      go_enter Try.func26, Try.ntmps26
      go_wp2_with fail
      go_ret
      exact ⟨rfl, rfl⟩
  · have hv : hasB ps j = false := by unfold hasB; simp; omega
    rw [hv]
    have d1 : decide (0 ≤ j) = false := by simpa using h1
    clear hv
    go_enter Try.func26, Try.ntmps26
    go_wp2_with fail
    go_ret
    exact ⟨rfl, rfl⟩

/-- are two ends cut from each other? -/
def cutB (cs : List (Int × Int)) (x y : Int) : Bool := cs.any fun c => decide (c = (x, y) ∨ c = (y, x))
theorem cutB_take (cs : List (Int × Int)) (x y : Int) (i : Nat) (c : Int × Int) (h : cs[i]? = some c) : cutB (cs.take (i + 1)) x y = (cutB (cs.take i) x y || decide (c = (x, y) ∨ c = (y, x))) := by
  unfold cutB
  rw [List.take_add_one, h, List.any_append]; simp
theorem cutB_hit (cs : List (Int × Int)) (x y : Int) (i : Nat) (c : Int × Int) (h : cs[i]? = some c) (hc : c = (x, y) ∨ c = (y, x)) : cutB cs x y = true := by
  unfold cutB
  rw [List.any_eq_true]
  exact ⟨c, List.mem_of_getElem? h, by simpa using hc⟩
def rsB (cs : List (Int × Int)) (ps : List Pk) (p : Pk) : Bool := !cutB cs p.1 p.2.1 && decide (ps.length < 2000)
def rsL (cs : List (Int × Int)) (ps : List Pk) (p : Pk) : List Pk := if rsB cs ps p then ps ++ [p] else ps

theorem refSend_any (S : Nat → Prop) (g : Nat) (ps : List Pk) (cs : List (Int × Int)) (x y : Int) (s : ByteArray) (w : World) (h : RefIs w S g ps cs) (hcs : cs.length ≤ 1000000) (hps : ps.length ≤ 1000000) :
    Calls Try.prog 18 #[.pointer (some ⟨g, 0, none⟩), .agg #[.int .i64 x, .int .i64 y, .string s]] w fun e w' => e = .returned (.bool (rsB cs ps (x, y, s))) ∧ RefStep S g w w' (rsL cs ps (x, y, s)) cs := by
  obtain ⟨i0, hi0, hz0, hz1, hz2⟩ := info_parts info_pk
  obtain ⟨W, hW⟩ : ∃ W, W = w.alloc (.cells #[.int .i64 x, .int .i64 y, .string s] 28) := ⟨_, rfl⟩
  have hbW : Below w.heap.size w W := by rw [hW]; exact (Below.refl _ _).alloc (Nat.le_refl _) _
  have hP : BlkIs W w.heap.size 28 #[.int .i64 x, .int .i64 y, .string s] := by rw [hW]; exact BlkIs.new _ _ _
  have p0 := hP.cell 0; have p1 := hP.cell 1; have p2 := hP.cell 2
  simp at p0 p1 p2
  have hR := h.below hbW
  obtain ⟨v1, v2, hB, h1, h2, s1, s2, s3⟩ := id hR
  have hg := hB.lt
  have c0 := hB.cell 0; have c1 := hB.cell 1; have f0 := hB.free 0
  obtain ⟨A1, k1, rfl, hk1⟩ := own_slice h1
  obtain ⟨A2, k2, rfl, hk2⟩ := own_slice h2
  simp at c0 c1
  have Hh := Lib.hid h; have HB := Lib.hid hB; have H1 := Lib.hid h1; have H2 := Lib.hid h2; have S3 := Lib.hid s3
  have HbW := Lib.hid hbW
  have hPl := hP.lt
  have HP := Lib.hid hP
  clear h hB h1 h2 s2 s3 hR hbW hP
  go_enter Try.func18, Try.ntmps18
  go_wp2_with fail
  rw [← hW]
  have HW := Lib.hid hW
  clear hW
  go_loopw [5] (fun i wr => ∃ q n : Nat, q ≤ cs.length ∧ i = .int .i64 q ∧ wr = W.drewN n ∧ Hid (cutB (cs.take q) x y = false)) (fun i _ => cs.length - (intOf i).toNat)
  case atStart => exact ⟨0, 0, Nat.zero_le _, rfl, rfl, Lib.hid (by simp [cutB])⟩
  case round =>
    obtain ⟨q, n, hq, rfl, rfl, Hno⟩ := hrel
    by_cases hlt : q < cs.length
    · obtain ⟨c, hc⟩ : ∃ c, cs[q]? = some c := ⟨_, List.getElem?_eq_getElem hlt⟩
      obtain ⟨r, k3, hr, _, hrl⟩ := H2.out.form (by omega)
      simp only [Value.slice.injEq, true_and] at hr
      obtain ⟨rfl, rfl⟩ := hr
      obtain ⟨e0, e1⟩ := prVs_get cs q c hc
      have q0 := (H2.out.cellAt (q * 2) (by omega)).trans e0
      have q1 := (H2.out.cellAt (q * 2 + 1) (by omega)).trans e1
      have HC := Lib.hid hc
      obtain ⟨a, b⟩ := c
      simp only at q0 q1
      have i0' : (0 : Int) ≤ (q : Int) := by omega
      have i1' : (q : Int) < (cs.length : Int) := by omega
      have hE1 : ∀ w, (binOp .eql 53 (.agg #[.int .i64 a, .int .i64 b]) (.agg #[.int .i64 x, .int .i64 y])).run Try.prog w = .ok (.bool (a == x && b == y)) w := fun w => run_eql_arr2 w a b x y
      have hE2 : ∀ w, (binOp .eql 53 (.agg #[.int .i64 a, .int .i64 b]) (.agg #[.int .i64 y, .int .i64 x])).run Try.prog w = .ok (.bool (a == y && b == x)) w := fun w => run_eql_arr2 w a b y x
      clear e0 e1 hc
      by_cases h1 : a = x ∧ b = y
      · have d1 : (a == x && b == y) = true := by simpa using h1
        have hv : rsB cs ps (x, y, s) = false := by unfold rsB; rw [cutB_hit cs x y q _ HC.out (.inl (by rw [h1.1, h1.2]))]; rfl
        have hvl : rsL cs ps (x, y, s) = ps := by unfold rsL; rw [hv]; rfl
        have Hv := Lib.hid hv; have Hvl := Lib.hid hvl
        rw [d1] at hE1
        clear hv hvl h1 d1
        go_wp2_with fail
        go_quiet (fail)
        go_wp2_with fail
        go_ret
        rw [Hv.out, Hvl.out]
        exact ⟨rfl, RefIs.same Hh.out (HbW.out.trans (Below.mono (by repeat (first | exact Below.refl _ _ | refine below_drewN ?_ _ | refine Below.drew ?_)) HbW.out.size))⟩
      · have d1 : (a == x && b == y) = false := by simpa using h1
        rw [d1] at hE1
        by_cases h2 : a = y ∧ b = x
        · have d2 : (a == y && b == x) = true := by simpa using h2
          have hv : rsB cs ps (x, y, s) = false := by unfold rsB; rw [cutB_hit cs x y q _ HC.out (.inr (by rw [h2.1, h2.2]))]; rfl
          have hvl : rsL cs ps (x, y, s) = ps := by unfold rsL; rw [hv]; rfl
          have Hv := Lib.hid hv; have Hvl := Lib.hid hvl
          rw [d2] at hE2
          clear hv hvl h1 h2 d1 d2
          go_wp2_with fail
          go_quiet (fail)
          go_wp2_with fail
          go_ret
          rw [Hv.out, Hvl.out]
          exact ⟨rfl, RefIs.same Hh.out (HbW.out.trans (Below.mono (by repeat (first | exact Below.refl _ _ | refine below_drewN ?_ _ | refine Below.drew ?_)) HbW.out.size))⟩
        · have d2 : (a == y && b == x) = false := by simpa using h2
          rw [d2] at hE2
          have hno2 : cutB (cs.take (q + 1)) x y = false := by
            rw [cutB_take cs x y q _ HC.out, Hno.out]
            simp only [Prod.mk.injEq, Bool.false_or, decide_eq_false_iff_not]
            rintro (h | h)
            · exact h1 h
            · exact h2 h
          have HN2 := Lib.hid hno2
          clear h1 h2 d1 d2 hno2
          go_wp2_with fail
          go_quiet (fail)
          go_wp2_with fail
          go_roundw
          case rel => exact ⟨q + 1, _, by omega, by go_num, rfl, HN2⟩
          case measure => simp [intOf] <;> omega
    · obtain rfl : q = cs.length := by omega
      have hno : cutB cs x y = false := by have := Hno.out; rwa [List.take_of_length_le (Nat.le_refl _)] at this
      have hd5 : decide (cs.length < cs.length) = false := by simp
      by_cases hful : 2000 ≤ ps.length
      · have hv : rsB cs ps (x, y, s) = false := by unfold rsB; simp; omega
        have hvl : rsL cs ps (x, y, s) = ps := by unfold rsL; rw [hv]; rfl
        have Hv := Lib.hid hv; have Hvl := Lib.hid hvl
        have d1 : (2000 : Int) ≤ (ps.length : Int) := by omega
        clear hv hvl hno hlt
        go_wp2_with fail
        go_ret
        rw [Hv.out, Hvl.out]
        exact ⟨rfl, RefIs.same Hh.out (HbW.out.trans (Below.mono (by repeat (first | exact Below.refl _ _ | refine below_drewN ?_ _ | refine Below.drew ?_)) HbW.out.size))⟩
      · have hv : rsB cs ps (x, y, s) = true := by unfold rsB; rw [hno]; simp; omega
        have hvl : rsL cs ps (x, y, s) = ps ++ [(x, y, s)] := by unfold rsL; rw [hv]; rfl
        have Hv := Lib.hid hv; have Hvl := Lib.hid hvl
        have d1 : (ps.length : Int) < 2000 := by omega
        have KL : ∀ wx, Below W.heap.size W wx → SlR wx W.heap.size 3 A1 ps.length (pkVs ps) := fun wx hb => (SlR.own H1.out).below hb
        have KB : ∀ wx, Below W.heap.size W wx → BlkIs wx g 42 #[.slice A1 ps.length k1, .slice A2 cs.length k2] := fun wx hb => HB.out.below hb hg
        have KP : ∀ wx, Below W.heap.size W wx → BlkIs wx w.heap.size 28 #[.int .i64 x, .int .i64 y, .string s] := fun wx hb => HP.out.below hb hPl
        have KE : ∀ wx v' , Below W.heap.size W wx → wx.ownsRow W.heap.size 28 3 v' (ps.length + 1) (pkVs ps ++ [.int .i64 x, .int .i64 y, .string s]) → RefStep S g w (wx.setCell ⟨g, 0, none⟩ v') (ps ++ [(x, y, s)]) cs := fun wx v' hb hown =>
          refStep_row HB.out H2.out s1 S3.out (Chg.of_below HbW.out) hb (by
            have := hown
            rw [List.length_append, pkVs_append]
            refine ⟨by rw [List.length_append, pkVs_length]; simp [pkVs, pkC]; omega, ?_⟩
            rcases this.2 with h0 | ⟨g', cap, cur, h1, _, rest⟩
            · exact .inl h0
            · exact .inr ⟨g', cap, cur, h1, Nat.zero_le _, rest⟩) (fun b hb => (hown.lt b hb).1)
        have KL := Lib.hid KL; have KB := Lib.hid KB; have KP := Lib.hid KP; have KE := Lib.hid KE
        clear hv hvl hno hlt hful
        go_wp2_with fail
        refine wp_world (B := W.heap.size) (W := W) ?_ (by repeat (first | exact Below.refl _ _ | refine below_drewN ?_ _ | refine Below.drew ?_))
        intro X hbX
        have HbX := Lib.hid hbX
        have b0 := (KB.out X hbX).cell 0
        have b1 := (KP.out X hbX).cell 0; have b2 := (KP.out X hbX).cell 1; have b3 := (KP.out X hbX).cell 2
        simp at b0 b1 b2 b3
        have qg : g < X.heap.size := Nat.lt_of_lt_of_le hg hbX.size
        have qw : w.heap.size < X.heap.size := Nat.lt_of_lt_of_le hPl hbX.size
        clear hbX c0 c1 f0 p0 p1 p2
        have tok1 : True := trivial
        go_region_law (first
          | (have _t := tok1; clear tok1 _t; refine step_append_sl (by rfl) (.const (.slice none 0 0)) (.tmp 53) _ (by rfl) W.heap.size 28 i0 _ 3 32 Try.underlying39 hi0 hz0 hz1 hz2 rfl (by omega) (.slice none 0 0) 0 [] (by simp [Act.eval]) (World.ownsRow_nil _ _ _ _) W.heap.size A1 ps.length k1 (pkVs ps) (by simp [Act.eval, Act.put]) (KL.out _ (by repeat (first | exact HbX.out | refine Below.drew ?_ | refine below_new ?_ (Nat.le_refl _) _))) (pkVs_one ps) (by simp only [maxLen]; omega) (by omega) (by have := HbX.out.size; simp <;> omega) ?_; intro va wa hown1 hg1 hat1; have HA : Hid (Below W.heap.size W wa) := Lib.hid ((show Below W.heap.size W _ from (by repeat (first | exact HbX.out | refine Below.drew ?_ | refine below_new ?_ (Nat.le_refl _) _))).grown hg1 (by have := HbX.out.size; simp <;> omega) (by simp [Value.ownBlock])); (try have HQ : Hid (BlkIs wa X.heap.size 28 #[.int .i64 x, .int .i64 y, .string s]) := Lib.hid (((BlkIs.new X 28 #[.int .i64 x, .int .i64 y, .string s]).drew).grown hg1 (by simp [Value.ownBlock]))); simp only [Nat.zero_add, List.nil_append] at hown1; have HO := Lib.hid hown1; have hb0 := (KB.out wa HA.out).cell 0; have hp0 := (KP.out wa HA.out).cell 0; have hp1 := (KP.out wa HA.out).cell 1; have hp2 := (KP.out wa HA.out).cell 2; simp at hb0 hp0 hp1 hp2; have hwg : g < wa.heap.size := Nat.lt_of_lt_of_le hg HA.out.size; have hww : w.heap.size < wa.heap.size := Nat.lt_of_lt_of_le hPl HA.out.size; clear hown1 hg1 hat1)
          | (refine step_append_lies _ (by rfl) (.tmp 54) (.tmp 56) _ (by rfl) W.heap.size 28 i0 _ 3 32 Try.underlying39 hi0 hz0 hz1 hz2 rfl (by omega) va _ _ (by simp [Act.eval, Act.put]) (by first | exact HO.out | exact HO.out.alloc _ | exact (HO.out.alloc _).drew) ⟨wa.heap.size, 0, none⟩ 1 1 [.int .i64 x, .int .i64 y, .string s] (by simp [Act.eval, Act.put]) (by rfl) (World.news_of_block (cs := #[.int .i64 x, .int .i64 y, .string s]) (t := 28) (fr := (0, 0)) (heap_alloc_new wa _)) (by simp [Value.oneCell']) (by omega) (by simp only [maxLen]; omega) (by omega) (by have := HA.out.size; simp <;> omega) _ rfl ?_; intro g2 c2 wb hown2 hg2 hat2 hlt2; have HBb : Hid (Below W.heap.size W wb) := Lib.hid ((below_new HA.out (Nat.le_refl _) (.cells #[.int .i64 x, .int .i64 y, .string s] 28)).grown hg2 (by have := HA.out.size; simp <;> omega) (fun q hq => (HO.out.lt q hq).1)); have HF := Lib.hid (KE.out wb _ HBb.out hown2); have hb1 := (KB.out wb HBb.out).cell 0; have hf1 := (KB.out wb HBb.out).free 0; simp at hb1; clear hown2 hg2 hat2)
          | (refine step_append_lies _ (by rfl) (.tmp 54) (.tmp 56) _ (by rfl) W.heap.size 28 i0 _ 3 32 Try.underlying39 hi0 hz0 hz1 hz2 rfl (by omega) va _ _ (by simp [Act.eval, Act.put]) (by first | exact HO.out | exact HO.out.drew) ⟨X.heap.size, 0, none⟩ 1 1 [.int .i64 x, .int .i64 y, .string s] (by simp [Act.eval, Act.put]) (by rfl) (World.news_of_block (cs := #[.int .i64 x, .int .i64 y, .string s]) (t := 28) (fr := (0, 0)) HQ.out) (by simp [Value.oneCell']) (by omega) (by simp only [maxLen]; omega) (by omega) (by have := HA.out.size; simp <;> omega) _ rfl ?_; intro g2 c2 wb hown2 hg2 hat2 hlt2; have HBb : Hid (Below W.heap.size W wb) := Lib.hid (HA.out.grown hg2 (by have := HA.out.size; simp <;> omega) (fun q hq => (HO.out.lt q hq).1)); have HF := Lib.hid (KE.out wb _ HBb.out hown2); have hb1 := (KB.out wb HBb.out).cell 0; have hf1 := (KB.out wb HBb.out).free 0; simp at hb1; clear hown2 hg2 hat2))
        all_goals
          go_wp2_with fail
          go_ret
          rw [Hv.out, Hvl.out]
          exact ⟨rfl, HF.out⟩
end Go.Proofs.Ytadhboioaacaeaa
