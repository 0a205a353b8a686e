/- chapter 7: event.GetStored (printed by mkstget.py). -/
import Derived.Test.YtfpalamoaflilaaStPut
import Derived.Test.YtfpalamoaflilaaEvGet2
namespace Go.Proofs.Ytfpalamoaflilaa
open Go.RowKit
set_option maxHeartbeats 4000000
set_option maxRecDepth 100000
set_option linter.unusedVariables false
attribute [local go_sem] run_store_flt

theorem readS_fits (b : List UInt8) (hl : b.length ≤ 1000000000) : (readS b).1.fits := by
  have h1 := rdEv_fits b 0 hl
  unfold readS
  refine ⟨h1, ?_, (i64L_in _).1, (i64L_in _).2, (i64L_in _).1, (i64L_in _).2, (i64L_in _).1, (i64L_in _).2⟩
  show (ByteArray.mk _).size ≤ _
  rw [size_mk]
  exact Nat.le_trans (inText_firstE _ _ _) (Nat.le_trans (rdEv_few _ _) (by omega))

theorem getStored_any (b : ByteArray) (w : World) (hb : b.size ≤ 100000) :
    Calls Try.prog 17 #[.string b] w fun y w' => y = .returned (.tuple #[stA (getS b.data.toList).1, .int .i64 (getS b.data.toList).2]) ∧ Below w.heap.size w w' := by
  have hsl := size_list b
  obtain ⟨q, hq⟩ : ∃ q, rdEv b.data.toList 0 = q := ⟨_, rfl⟩
  obtain ⟨a, ha⟩ : ∃ a, inText 60 q.2.1 q.2.2 = a := ⟨_, rfl⟩
  obtain ⟨b0, h0⟩ : ∃ z, inTake 8 a.2.1 a.2.2 = z := ⟨_, rfl⟩
  obtain ⟨b1, h1⟩ : ∃ z, inTake 8 b0.2.1 b0.2.2 = z := ⟨_, rfl⟩
  obtain ⟨b2, h2⟩ : ∃ z, inTake 8 b1.2.1 b1.2.2 = z := ⟨_, rfl⟩
  have lq : q.2.1.length ≤ 100000 := by rw [← hq]; exact Nat.le_trans (rdEv_few _ _) (by omega)
  have la : a.2.1.length ≤ 100000 := by rw [← ha]; exact Nat.le_trans (inText_few _ _ _) lq
  have l0 : b0.2.1.length ≤ 100000 := by rw [← h0]; exact Nat.le_trans (inTake_few _ _ _) la
  have l1 : b1.2.1.length ≤ 100000 := by rw [← h1]; exact Nat.le_trans (inTake_few _ _ _) l0
  have l2 : b2.2.1.length ≤ 100000 := by rw [← h2]; exact Nat.le_trans (inTake_few _ _ _) l1
  obtain ⟨x, hx⟩ : ∃ x : St, x = ⟨q.1, ⟨a.1.toArray⟩, i64L b0.1, i64L b1.1, i64L b2.1⟩ := ⟨_, rfl⟩
  have hrd : readS b.data.toList = (x, b2.2.1, b2.2.2) := by subst hx; subst h2; subst h1; subst h0; subst ha; subst hq; rfl
  have hxf : x.fits := by have := readS_fits b.data.toList (by omega); rw [hrd] at this; exact this
  have Uq := fun (g base : Nat) (w : World) (h : InIs w base g b.data.toList 0) => evGet_any g base _ _ w h (by omega)
  have Ua := fun (g base : Nat) (w : World) (h : InIs w base g q.2.1 q.2.2) => inTextG g base 60 _ _ w h (by omega) (by omega)
  have U0 := fun (g base : Nat) (w : World) (h : InIs w base g a.2.1 a.2.2) => inI64G g base _ _ w h (by omega)
  have U1 := fun (g base : Nat) (w : World) (h : InIs w base g b0.2.1 b0.2.2) => inI64G g base _ _ w h (by omega)
  have U2 := fun (g base : Nat) (w : World) (h : InIs w base g b1.2.1 b1.2.2) => inI64G g base _ _ w h (by omega)
  rw [hq] at Uq; rw [ha] at Ua; rw [h0] at U0; rw [h1] at U1; rw [h2] at U2
  have e1 : q.1 = x.ev := by rw [hx]
  have e2 : (⟨a.1.toArray⟩ : ByteArray) = x.s := by rw [hx]
  have e3 : i64L b0.1 = x.v := by rw [hx]
  have e4 : i64L b1.1 = x.p := by rw [hx]
  have e5 : i64L b2.1 = x.t := by rw [hx]
  rw [e1] at Uq; rw [e2] at Ua; rw [e3] at U0; rw [e4] at U1; rw [e5] at U2
  unfold evA at Uq
  obtain ⟨p, hp⟩ : ∃ p, putS x = p := ⟨_, rfl⟩
  have hput := fun w => putStored_any x w hxf
  rw [hp] at hput
  unfold stA at hput
  have hgt : getS b.data.toList = if endL b2.2.1 b2.2.2 ≠ 0 then (.none, endL b2.2.1 b2.2.2) else if p.2 ≠ 0 ∨ p.1 ≠ b.data.toList then (.none, 6) else (x, 0) := by unfold getS; rw [hrd]; dsimp only; rw [hp]
  have HUq := Lib.hid Uq; have HUa := Lib.hid Ua; have HU0 := Lib.hid U0; have HU1 := Lib.hid U1; have HU2 := Lib.hid U2; have Hput := Lib.hid hput; have Hgt := Lib.hid hgt
  clear Uq Ua U0 U1 U2 hput hgt hq ha h0 h1 h2 hx hrd hxf e1 e2 e3 e4 e5 hp lq la l0 l1
  obtain ⟨W0, hW0⟩ : ∃ W0, w.alloc (.cells #[.int .i64 0, .string ⟨#[]⟩, .string ⟨#[]⟩, .float .f64 0, .string ⟨#[]⟩, .int .i64 0, .int .i64 0, .int .i64 0] 38) = W0 := ⟨_, rfl⟩
  have hR : BlkIs W0 w.heap.size 38 #[.int .i64 0, .string ⟨#[]⟩, .string ⟨#[]⟩, .float .f64 0, .string ⟨#[]⟩, .int .i64 0, .int .i64 0, .int .i64 0] := by rw [← hW0]; exact BlkIs.new _ _ _
  have hb0 : Below w.heap.size w W0 := by rw [← hW0]; exact (Below.refl _ _).alloc (Nat.le_refl _) _
  have R0 := Lib.hid hR; have B0 := Lib.hid hb0
  clear hR hb0
  go_enter Try.func17, Try.ntmps17
  go_wp2_with fail
  (try rw [hW0])
  refine (newIn_any b W0 (by omega)).mono ?_
  rintro y w2 ⟨g, rfl, hi, hb2⟩
  have R2 := Lib.hid (R0.out.below hb2 R0.out.lt); have W2 := Lib.hid (B0.out.trans (hb2.mono B0.out.size)); have I2 := Lib.hid hi
  have hgr : w.heap.size < g := Nat.lt_of_lt_of_le R0.out.lt hi.1
  clear hb2 hi hW0
  go_wp2_with fail
  refine (HUq.out g W0.heap.size _ I2.out).mono ?_
  rintro y w3 ⟨rfl, hi, hb⟩
  have R3 := Lib.hid (R2.out.keptBy hb (by omega)); have W3 := Lib.hid (W2.out.grown hb (by exact W2.out.size) (fun q hq => by injection hq with hq; omega)); have I3 := Lib.hid hi
  clear hb hi
  go_wp2_with fail
  refine (HUa.out g W0.heap.size _ I3.out).mono ?_
  rintro y w4 ⟨rfl, hi, hb⟩
  have R4 := Lib.hid (R3.out.keptBy hb (by omega)); have W4 := Lib.hid (W3.out.grown hb (by exact W3.out.size) (fun q hq => by injection hq with hq; omega)); have I4 := Lib.hid hi
  clear hb hi
  go_wp2_with fail
  refine (HU0.out g W0.heap.size _ I4.out).mono ?_
  rintro y w5 ⟨rfl, hi, hb⟩
  have R5 := Lib.hid (R4.out.keptBy hb (by omega)); have W5 := Lib.hid (W4.out.grown hb (by exact W4.out.size) (fun q hq => by injection hq with hq; omega)); have I5 := Lib.hid hi
  clear hb hi
  go_wp2_with fail
  refine (HU1.out g W0.heap.size _ I5.out).mono ?_
  rintro y w6 ⟨rfl, hi, hb⟩
  have R6 := Lib.hid (R5.out.keptBy hb (by omega)); have W6 := Lib.hid (W5.out.grown hb (by exact W5.out.size) (fun q hq => by injection hq with hq; omega)); have I6 := Lib.hid hi
  clear hb hi
  go_wp2_with fail
  refine (HU2.out g W0.heap.size _ I6.out).mono ?_
  rintro y w7 ⟨rfl, hi, hb⟩
  have R7 := Lib.hid (R6.out.keptBy hb (by omega)); have W7 := Lib.hid (W6.out.grown hb (by exact W6.out.size) (fun q hq => by injection hq with hq; omega)); have I7 := Lib.hid hi
  clear hb hi
  go_wp2_with fail
  obtain ⟨V, hV⟩ : ∃ V, w7.alloc (.cells #[.int .i64 x.ev.id, .string x.ev.ty, .string x.ev.da, .float .f64 x.ev.va, .string x.s, .int .i64 x.v, .int .i64 x.p, .int .i64 x.t] 38) = V := ⟨_, rfl⟩
  have hbV : Below w7.heap.size w7 V := by rw [← hV]; exact (Below.refl _ _).alloc (Nat.le_refl _) _
  have M7 := Lib.hid (show BlkIs V w7.heap.size 38 #[.int .i64 x.ev.id, .string x.ev.ty, .string x.ev.da, .float .f64 x.ev.va, .string x.s, .int .i64 x.v, .int .i64 x.p, .int .i64 x.t] by rw [← hV]; exact BlkIs.new _ _ _)
  have hg7 : g < w7.heap.size := I7.out.lt
  have RV := Lib.hid (R7.out.below hbV R7.out.lt); have WV := Lib.hid (W7.out.trans (hbV.mono W7.out.size)); have IV := Lib.hid (show InIs V W0.heap.size g b2.2.1 b2.2.2 from ⟨I7.out.1, I7.out.2.below hbV hg7⟩)
  rw [hV]
  have hcM7 := M7.out.cell
  clear hV hbV
  refine (inEnd_any g W0.heap.size b2.2.1 b2.2.2 V IV.out (by omega)).mono ?_
  rintro y w8 ⟨rfl, hb, _⟩
  have R8 := Lib.hid (RV.out.keptBy hb (by omega)); have M8 := Lib.hid (M7.out.keptBy hb (by omega)); have W8 := Lib.hid (WV.out.grown hb (by exact WV.out.size) (fun q hq => by injection hq with hq; omega))
  clear hb hcM7
  have hcR := R8.out.cell; have hfR := R8.out.free; have hcM := M8.out.cell; have hRl := R8.out.lt
  by_cases z1 : endL b2.2.1 b2.2.2 = 0
  · have y1 : (endL b2.2.1 b2.2.2 != 0) = false := by simpa using z1
    go_wp2_with fail
    refine (Hput.out w8).mono ?_
    rintro y w9 ⟨rfl, hb⟩
    have R9 := Lib.hid (R8.out.below hb R8.out.lt); have M9 := Lib.hid (M8.out.below hb M8.out.lt); have W9 := Lib.hid (W8.out.trans (hb.mono W8.out.size))
    clear hb hcR hfR hcM hRl
    have hcR := R9.out.cell; have hfR := R9.out.free; have hcM := M9.out.cell; have hRl := R9.out.lt
    by_cases z2 : p.2 = 0
    · have y2 : (p.2 != 0) = false := by simpa using z2
      by_cases z3 : p.1 = b.data.toList
      · have y3 : (p.1 == b.toList) = true := by rw [ByteArray.toList_eq]; simpa using z3
        have HG : Hid (getS b.data.toList = (x, 0)) := Lib.hid (by rw [Hgt.out, if_neg (by simpa using z1), if_neg (by rintro (h | h); exact h z2; exact h z3)])
        clear z1 z2 z3
        go_wp2_with fail
        change bodyPost _ _ _ _ _ (setEight w9 w.heap.size (.int .i64 x.ev.id) (.string x.ev.ty) (.string x.ev.da) (.float .f64 x.ev.va) (.string x.s) (.int .i64 x.v) (.int .i64 x.p) (.int .i64 x.t))
        have hB9 := blk_eight R9.out (.int .i64 x.ev.id) (.string x.ev.ty) (.string x.ev.da) (.float .f64 x.ev.va) (.string x.s) (.int .i64 x.v) (.int .i64 x.p) (.int .i64 x.t)
        have hW9 := below_eight W9.out (Nat.le_refl w.heap.size) (.int .i64 x.ev.id) (.string x.ev.ty) (.string x.ev.da) (.float .f64 x.ev.va) (.string x.s) (.int .i64 x.v) (.int .i64 x.p) (.int .i64 x.t)
        generalize setEight w9 w.heap.size (.int .i64 x.ev.id) (.string x.ev.ty) (.string x.ev.da) (.float .f64 x.ev.va) (.string x.s) (.int .i64 x.v) (.int .i64 x.p) (.int .i64 x.t) = WE at hB9 hW9 ⊢
        have hcell := hB9.cell; have hfree := hB9.free; have hlt9 := hB9.lt
        clear hcR hfR hcM hRl
        refine bodyPost_ret (v := .tuple #[.agg #[.int .i64 x.ev.id, .string x.ev.ty, .string x.ev.da, .float .f64 x.ev.va, .string x.s, .int .i64 x.v, .int .i64 x.p, .int .i64 x.t], .int .i64 0]) ?_ rfl ?_
        · simp [results, Try.results17, go_sem, hcell, hfree, hlt9]
        · rw [HG.out]
          exact ⟨rfl, hW9⟩
      · have y3 : (p.1 == b.toList) = false := by rw [ByteArray.toList_eq]; simpa using z3
        have HG : Hid (getS b.data.toList = (.none, 6)) := Lib.hid (by rw [Hgt.out, if_neg (by simpa using z1), if_pos (.inr z3)])
        clear z1 z2 z3
        go_wp2_with fail
        change bodyPost _ _ _ _ _ (setEight w9 w.heap.size (.int .i64 0) (.string ⟨#[]⟩) (.string ⟨#[]⟩) (.float .f64 0) (.string ⟨#[]⟩) (.int .i64 0) (.int .i64 0) (.int .i64 0))
        have hB9 := blk_eight R9.out (.int .i64 0) (.string ⟨#[]⟩) (.string ⟨#[]⟩) (.float .f64 0) (.string ⟨#[]⟩) (.int .i64 0) (.int .i64 0) (.int .i64 0)
        have hW9 := below_eight W9.out (Nat.le_refl w.heap.size) (.int .i64 0) (.string ⟨#[]⟩) (.string ⟨#[]⟩) (.float .f64 0) (.string ⟨#[]⟩) (.int .i64 0) (.int .i64 0) (.int .i64 0)
        generalize setEight w9 w.heap.size (.int .i64 0) (.string ⟨#[]⟩) (.string ⟨#[]⟩) (.float .f64 0) (.string ⟨#[]⟩) (.int .i64 0) (.int .i64 0) (.int .i64 0) = WE at hB9 hW9 ⊢
        have hcell := hB9.cell; have hfree := hB9.free; have hlt9 := hB9.lt
        clear hcR hfR hcM hRl
        refine bodyPost_ret (v := .tuple #[.agg #[.int .i64 0, .string ⟨#[]⟩, .string ⟨#[]⟩, .float .f64 0, .string ⟨#[]⟩, .int .i64 0, .int .i64 0, .int .i64 0], .int .i64 6]) ?_ rfl ?_
        · simp [results, Try.results17, go_sem, hcell, hfree, hlt9]
        · rw [HG.out]
          exact ⟨rfl, hW9⟩
    · have y2 : (p.2 != 0) = true := by simpa using z2
      have HG : Hid (getS b.data.toList = (.none, 6)) := Lib.hid (by rw [Hgt.out, if_neg (by simpa using z1), if_pos (.inl z2)])
      clear z1 z2
      go_wp2_with fail
      change bodyPost _ _ _ _ _ (setEight w9 w.heap.size (.int .i64 0) (.string ⟨#[]⟩) (.string ⟨#[]⟩) (.float .f64 0) (.string ⟨#[]⟩) (.int .i64 0) (.int .i64 0) (.int .i64 0))
      have hB9 := blk_eight R9.out (.int .i64 0) (.string ⟨#[]⟩) (.string ⟨#[]⟩) (.float .f64 0) (.string ⟨#[]⟩) (.int .i64 0) (.int .i64 0) (.int .i64 0)
      have hW9 := below_eight W9.out (Nat.le_refl w.heap.size) (.int .i64 0) (.string ⟨#[]⟩) (.string ⟨#[]⟩) (.float .f64 0) (.string ⟨#[]⟩) (.int .i64 0) (.int .i64 0) (.int .i64 0)
      generalize setEight w9 w.heap.size (.int .i64 0) (.string ⟨#[]⟩) (.string ⟨#[]⟩) (.float .f64 0) (.string ⟨#[]⟩) (.int .i64 0) (.int .i64 0) (.int .i64 0) = WE at hB9 hW9 ⊢
      have hcell := hB9.cell; have hfree := hB9.free; have hlt9 := hB9.lt
      clear hcR hfR hcM hRl
      refine bodyPost_ret (v := .tuple #[.agg #[.int .i64 0, .string ⟨#[]⟩, .string ⟨#[]⟩, .float .f64 0, .string ⟨#[]⟩, .int .i64 0, .int .i64 0, .int .i64 0], .int .i64 6]) ?_ rfl ?_
      · simp [results, Try.results17, go_sem, hcell, hfree, hlt9]
      · rw [HG.out]
        exact ⟨rfl, hW9⟩
  · have y1 : (endL b2.2.1 b2.2.2 != 0) = true := by simpa using z1
    have HG : Hid (getS b.data.toList = (.none, endL b2.2.1 b2.2.2)) := Lib.hid (by rw [Hgt.out, if_pos z1])
    clear z1
    go_wp2_with fail
    change bodyPost _ _ _ _ _ (setEight w8 w.heap.size (.int .i64 0) (.string ⟨#[]⟩) (.string ⟨#[]⟩) (.float .f64 0) (.string ⟨#[]⟩) (.int .i64 0) (.int .i64 0) (.int .i64 0))
    have hB9 := blk_eight R8.out (.int .i64 0) (.string ⟨#[]⟩) (.string ⟨#[]⟩) (.float .f64 0) (.string ⟨#[]⟩) (.int .i64 0) (.int .i64 0) (.int .i64 0)
    have hW9 := below_eight W8.out (Nat.le_refl w.heap.size) (.int .i64 0) (.string ⟨#[]⟩) (.string ⟨#[]⟩) (.float .f64 0) (.string ⟨#[]⟩) (.int .i64 0) (.int .i64 0) (.int .i64 0)
    generalize setEight w8 w.heap.size (.int .i64 0) (.string ⟨#[]⟩) (.string ⟨#[]⟩) (.float .f64 0) (.string ⟨#[]⟩) (.int .i64 0) (.int .i64 0) (.int .i64 0) = WE at hB9 hW9 ⊢
    have hcell := hB9.cell; have hfree := hB9.free; have hlt9 := hB9.lt
    clear hcR hfR hcM hRl
    refine bodyPost_ret (v := .tuple #[.agg #[.int .i64 0, .string ⟨#[]⟩, .string ⟨#[]⟩, .float .f64 0, .string ⟨#[]⟩, .int .i64 0, .int .i64 0, .int .i64 0], .int .i64 (endL b2.2.1 b2.2.2)]) ?_ rfl ?_
    · simp [results, Try.results17, go_sem, hcell, hfree, hlt9]
    · rw [HG.out]
      exact ⟨rfl, hW9⟩
end Go.Proofs.Ytfpalamoaflilaa
