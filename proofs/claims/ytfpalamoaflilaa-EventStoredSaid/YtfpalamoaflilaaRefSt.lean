/- chronicleref7: stored events laid, read, held against each other (printed by mkrefst.py). -/
import Derived.Test.YtfpalamoaflilaaRefEv
import Derived.Test.YtfpalamoaflilaaStGet
import Derived.Test.YtfpalamoaflilaaEvSame
namespace Go.Proofs.Ytfpalamoaflilaa
open Go.RowKit
set_option maxHeartbeats 4000000
set_option maxRecDepth 100000
set_option linter.unusedVariables false
attribute [local go_sem] run_store_flt

theorem refDone7_any (g base : Nat) (bs : List UInt8) (w : World) (h : RoutIs w base g bs 0) (hl : bs.length ≤ 1000000000) :
    Calls Try.prog 49 #[.pointer (some ⟨g, 0, none⟩)] w fun e w' => e = .returned (.tuple #[.string ⟨bs.toArray⟩, .int .i64 0]) ∧ w = w' := by
  obtain ⟨v, hB, hbg, hown⟩ := id h
  go_enter Try.func49, Try.ntmps49
  have hc0 := hB.cell 0
  have hc1 := hB.cell 1
  simp at hc0 hc1
  have hstr := run_str_own (P := Try.prog) w 63 9 5 Try.underlying63 Try.underlying5 Try.underlying9 base v bs hown
  clear hown hB
  go_wp2
  go_ret2
  exact ⟨rfl, rfl⟩

theorem refNumP_t (g base : Nat) (v : Int) (h0 : 0 ≤ v) (h1 : v ≤ 1099511627776) (bs : List UInt8) (w : World) (h : RoutIs w base g bs 0) (hb : base ≤ w.heap.size) (hl : bs.length + 8 ≤ 1000000000) :
    Calls Try.prog 48 #[.pointer (some ⟨g, 0, none⟩), .int .u64 v, .int .i64 8] w fun e w' =>
      e = .returned (.tuple #[]) ∧ RoutIs w' base g (bs ++ be64 v) 0 ∧ OutRStep base w w' := by
  have := refNumI_t g base v bs w h hb hl
  rw [IntWalk.u64_in v ⟨h0, by omega⟩] at this
  exact this

theorem refPutStored_any (x : St) (w : World) (hf : x.fits) :
    Calls Try.prog 16 #[stA x] w fun e w' => e = .returned (.tuple #[.string ⟨(putS x).1.toArray⟩, .int .i64 (putS x).2]) ∧ Below w.heap.size w w' := by
  obtain ⟨⟨id, ty, da, va⟩, s, v, p, t⟩ := x
  have ht := hf.ev.t1; have hd := hf.ev.d1; have hs := hf.s1; have hv1 := hf.ev.v1
  dsimp only at ht hd hs hv1
  obtain ⟨W, hW⟩ : ∃ W, w.alloc (.cells #[.int .i64 id, .string ty, .string da, .float .f64 va, .string s, .int .i64 v, .int .i64 p, .int .i64 t] 38) = W := ⟨_, rfl⟩
  have hM : BlkIs W w.heap.size 38 #[.int .i64 id, .string ty, .string da, .float .f64 va, .string s, .int .i64 v, .int .i64 p, .int .i64 t] := by rw [← hW]; exact BlkIs.new _ _ _
  have hb0 : Below w.heap.size w W := by rw [← hW]; exact (Below.refl _ _).alloc (Nat.le_refl _) _
  have hcW := hM.cell
  have hva := refValid7_any id ty da va W ht hd
  have hna := fun w => refStream_any s w hs
  unfold stA
  dsimp only
  have HM := Lib.hid hM; have HB0 := Lib.hid hb0
  clear hM hb0
  by_cases hok : okS ⟨⟨id, ty, da, va⟩, s, v, p, t⟩ = true
  · have hp : putS ⟨⟨id, ty, da, va⟩, s, v, p, t⟩ = (stL ⟨⟨id, ty, da, va⟩, s, v, p, t⟩, 0) := by unfold putS; rw [if_pos hok]
    rw [hp]
    obtain ⟨h1, h2⟩ := okS_size hok
    obtain ⟨h3, h4⟩ := validE_size h1
    have hok2 := hok
    unfold okS withinB at hok2
    simp only [Bool.and_eq_true, decide_eq_true_eq] at hok2
    obtain ⟨⟨⟨⟨k1, k2⟩, k3, k3'⟩, k4, k4'⟩, k5, k5'⟩ := hok2
    dsimp only at h2 h3 h4
    rw [k1] at hva
    simp only [k2] at hna
    unfold stL
    dsimp only
    have hel : (evL ⟨id, ty, da, va⟩).length ≤ 300 := by rw [evL_length]; dsimp only; omega
    have hss := size_list s
    have Hva := Lib.hid hva; have Hna := Lib.hid hna
    clear hva hna hp h1 hok k1 k2 hf
    go_enter Try.func16, Try.ntmps16
    go_wp2_with fail
    (try rw [hW])
    refine Hva.out.mono ?_
    rintro e w1 ⟨rfl, hb1⟩
    have M1 := Lib.hid (HM.out.below hb1 HM.out.lt)
    have B1 := Lib.hid (HB0.out.trans (hb1.mono HB0.out.size))
    have hc1 := M1.out.cell; have hl1 := M1.out.lt
    clear hb1 hcW hW
    go_wp2_with fail
    refine (Hna.out _).mono ?_
    rintro e w2 ⟨rfl, rfl⟩
    go_wp2_with fail
    obtain ⟨wo, hwo⟩ : ∃ wo, w1.alloc (.cells #[.slice none 0 0, .int .i64 0] 73) = wo := ⟨_, rfl⟩
    have hbo : Below w1.heap.size w1 wo := by rw [← hwo]; exact (Below.refl _ _).alloc (Nat.le_refl _) _
    have hO := rout_new w1
    rw [hwo] at hO ⊢
    have Mo := Lib.hid (M1.out.below hbo hl1)
    refine (refLay7_any w1.heap.size w1.heap.size id ty da va [] wo hO hbo.size (by simp) h3 h4 hv1).mono ?_
    rintro e w3 ⟨rfl, ho3, hb3⟩
    have M3 := Lib.hid (Mo.out.typR hb3 (by decide) (by decide)); have O3 := Lib.hid ho3; have B3 := Lib.hid (hbo.trans hb3.bel)
    have hc3 := M3.out.cell
    have hz3 : w1.heap.size ≤ w3.heap.size := B3.out.size
    clear hwo hbo hO ho3 hb3 hc1
    go_wp2_with fail
    refine (refOutText_t w1.heap.size w1.heap.size _ s w3 O3.out hz3 (by omega) (by simp only [List.length_append, List.length_nil]; omega)).mono ?_
    rintro e w4 ⟨rfl, ho4, hb4⟩
    have M4 := Lib.hid (M3.out.typR hb4 (by decide) (by decide)); have O4 := Lib.hid ho4; have B4 := Lib.hid (B3.out.trans hb4.bel)
    have hc4 := M4.out.cell
    have hz4 : w1.heap.size ≤ w4.heap.size := B4.out.size
    clear ho4 hb4 hc3
    go_wp2_with fail
    refine (refNumP_t w1.heap.size w1.heap.size v (by omega) (by omega) _ w4 O4.out hz4 (by simp only [List.length_append, List.length_nil, textL_length, be64_length]; omega)).mono ?_
    rintro e w5 ⟨rfl, ho5, hb5⟩
    have M5 := Lib.hid (M4.out.typR hb5 (by decide) (by decide)); have O5 := Lib.hid ho5; have B5 := Lib.hid (B4.out.trans hb5.bel)
    have hc5 := M5.out.cell
    have hz5 : w1.heap.size ≤ w5.heap.size := B5.out.size
    clear ho5 hb5 hc4
    go_wp2_with fail
    refine (refNumP_t w1.heap.size w1.heap.size p (by omega) (by omega) _ w5 O5.out hz5 (by simp only [List.length_append, List.length_nil, textL_length, be64_length]; omega)).mono ?_
    rintro e w6 ⟨rfl, ho6, hb6⟩
    have M6 := Lib.hid (M5.out.typR hb6 (by decide) (by decide)); have O6 := Lib.hid ho6; have B6 := Lib.hid (B5.out.trans hb6.bel)
    have hc6 := M6.out.cell
    have hz6 : w1.heap.size ≤ w6.heap.size := B6.out.size
    clear ho6 hb6 hc5
    go_wp2_with fail
    refine (refNumP_t w1.heap.size w1.heap.size t (by omega) (by omega) _ w6 O6.out hz6 (by simp only [List.length_append, List.length_nil, textL_length, be64_length]; omega)).mono ?_
    rintro e w7 ⟨rfl, ho7, hb7⟩
    have M7 := Lib.hid (M6.out.typR hb7 (by decide) (by decide)); have O7 := Lib.hid ho7; have B7 := Lib.hid (B6.out.trans hb7.bel)
    have hc7 := M7.out.cell
    have hz7 : w1.heap.size ≤ w7.heap.size := B7.out.size
    clear ho7 hb7 hc6
    go_wp2_with fail
    refine (refDone7_any w1.heap.size w1.heap.size _ w7 O7.out (by simp only [List.length_append, List.length_nil, textL_length, be64_length]; omega)).mono ?_
    rintro e w8 ⟨rfl, rfl⟩
    clear hc7
    go_wp2_with fail
    go_ret2
    exact ⟨by simp, B1.out.trans (B7.out.mono B1.out.size)⟩
  · have hp : putS ⟨⟨id, ty, da, va⟩, s, v, p, t⟩ = ([], 1) := by unfold putS; rw [if_neg hok]
    rw [hp]
    have hcs : validE ⟨id, ty, da, va⟩ = false ∨ (validE ⟨id, ty, da, va⟩ = true ∧ nameB s = false) ∨ (validE ⟨id, ty, da, va⟩ = true ∧ nameB s = true ∧ (¬ 0 ≤ v ∨ (0 ≤ v ∧ ¬ v ≤ 1099511627776) ∨ ((0 ≤ v ∧ v ≤ 1099511627776) ∧ (¬ 0 ≤ p ∨ (0 ≤ p ∧ ¬ p ≤ 1099511627776) ∨ ((0 ≤ p ∧ p ≤ 1099511627776) ∧ (¬ 0 ≤ t ∨ (0 ≤ t ∧ ¬ t ≤ 1099511627776))))))) := by
      unfold okS withinB at hok
      simp only [Bool.and_eq_true, decide_eq_true_eq] at hok
      cases h1 : validE ⟨id, ty, da, va⟩ with
      | false => exact .inl rfl
      | true =>
        refine .inr ?_
        cases h2 : nameB s with
        | false => exact .inl ⟨rfl, rfl⟩
        | true =>
          refine .inr ⟨rfl, rfl, ?_⟩
          rw [h1, h2] at hok
          simp only [true_and, and_assoc] at hok
          omega
    clear hp hok hf
    rcases hcs with k1 | ⟨k1, k2⟩ | ⟨k1, k2, hr⟩
    · rw [k1] at hva
      have Hva := Lib.hid hva
      clear hva hna k1
      go_enter Try.func16, Try.ntmps16
      go_wp2_with fail
      (try rw [hW])
      refine Hva.out.mono ?_
      rintro e w1 ⟨rfl, hb1⟩
      have B1 := Lib.hid (HB0.out.trans (hb1.mono HB0.out.size))
      clear hb1
      go_wp2_with fail
      go_ret2
      exact ⟨rfl, B1.out⟩
    · rw [k1] at hva
      simp only [k2] at hna
      have Hva := Lib.hid hva; have Hna := Lib.hid hna
      clear hva hna k1 k2
      go_enter Try.func16, Try.ntmps16
      go_wp2_with fail
      (try rw [hW])
      refine Hva.out.mono ?_
      rintro e w1 ⟨rfl, hb1⟩
      have M1 := Lib.hid (HM.out.below hb1 HM.out.lt)
      have hc1 := M1.out.cell; have hl1 := M1.out.lt
      have B1 := Lib.hid (HB0.out.trans (hb1.mono HB0.out.size))
      clear hb1 hcW hW
      go_wp2_with fail
      refine (Hna.out _).mono ?_
      rintro e w2 ⟨rfl, rfl⟩
      go_wp2_with fail
      go_ret2
      exact ⟨rfl, B1.out⟩
    · rw [k1] at hva
      simp only [k2] at hna
      have Hva := Lib.hid hva; have Hna := Lib.hid hna
      clear hva hna k1 k2
      rcases hr with r1 | ⟨r1, r2⟩ | ⟨⟨r1, r2⟩, r3 | ⟨r3, r4⟩ | ⟨⟨r3, r4⟩, r5 | ⟨r5, r6⟩⟩⟩
      all_goals
        go_enter Try.func16, Try.ntmps16
        go_wp2_with fail
        (try rw [hW])
        refine Hva.out.mono ?_
        rintro e w1 ⟨rfl, hb1⟩
        have M1 := Lib.hid (HM.out.below hb1 HM.out.lt)
        have hc1 := M1.out.cell; have hl1 := M1.out.lt
        have B1 := Lib.hid (HB0.out.trans (hb1.mono HB0.out.size))
        clear hb1 hcW hW
        go_wp2_with fail
        refine (Hna.out _).mono ?_
        rintro e w2 ⟨rfl, rfl⟩
        go_wp2_with fail
        go_ret2
        exact ⟨rfl, B1.out⟩

theorem refSame7f_any (a b : Nat) (w : World) : Calls Try.prog 60 #[.float .f64 a, .float .f64 b] w fun e w' => e = .returned (.bool (decide (canB a = canB b))) ∧ w = w' := by
  have ha := refBits_any a w
  have hb := refBits_any b w
  have e : ((canB a : Int) == (canB b : Int)) = decide (canB a = canB b) := by
    rw [Bool.eq_iff_iff, beq_iff_eq, decide_eq_true_eq]; omega
  have Ha := Lib.hid ha; have Hb := Lib.hid hb
  clear ha hb
  generalize canB a = x at *
  generalize canB b = y at *
  go_enter Try.func60, Try.ntmps60
  go_wp2_with fail
  refine Ha.out.mono ?_
  rintro e w1 ⟨rfl, rfl⟩
  go_wp2_with fail
  refine Hb.out.mono ?_
  rintro e w1 ⟨rfl, rfl⟩
  go_wp2_with fail
  go_ret
  exact ⟨by simp [e], rfl⟩


theorem refGetStored_any (b : ByteArray) (w : World) (hb : b.size ≤ 100000) :
    Calls Try.prog 18 #[.string b] w fun y w' => y = .returned (.tuple #[stA (getS b.data.toList).1, .int .i64 (getS b.data.toList).2]) ∧ Below w.heap.size w w' := by
  have hsl := size_list b
  obtain ⟨q, hq⟩ : ∃ q, rdEv b.data.toList 0 = q := ⟨_, rfl⟩
  obtain ⟨a, ha⟩ : ∃ a, inText 60 q.2.1 q.2.2 = a := ⟨_, rfl⟩
  obtain ⟨b0, h0⟩ : ∃ z, inTake 8 a.2.1 a.2.2 = z := ⟨_, rfl⟩
  obtain ⟨b1, h1⟩ : ∃ z, inTake 8 b0.2.1 b0.2.2 = z := ⟨_, rfl⟩
  obtain ⟨b2, h2⟩ : ∃ z, inTake 8 b1.2.1 b1.2.2 = z := ⟨_, rfl⟩
  obtain ⟨x, hx⟩ : ∃ x : St, x = ⟨q.1, ⟨a.1.toArray⟩, i64L b0.1, i64L b1.1, i64L b2.1⟩ := ⟨_, rfl⟩
  have hrd : readS b.data.toList = (x, b2.2.1, b2.2.2) := by subst hx; subst h2; subst h1; subst h0; subst ha; subst hq; rfl
  have hxf : x.fits := by have := readS_fits b.data.toList (by omega); rw [hrd] at this; exact this
  have Uq := fun (g base : Nat) (w : World) (h : RinQ w base g b.data.toList 0) => refTake7_any g base _ _ w h
  have Ua := fun (g base : Nat) (w : World) (h : RinQ w base g q.2.1 q.2.2) => refTextQ g base 60 _ _ w h (by omega)
  have U0 := fun (g base : Nat) (w : World) (h : RinQ w base g a.2.1 a.2.2) => refNumQ g base 8 _ _ w h (by omega)
  have U1 := fun (g base : Nat) (w : World) (h : RinQ w base g b0.2.1 b0.2.2) => refNumQ g base 8 _ _ w h (by omega)
  have U2 := fun (g base : Nat) (w : World) (h : RinQ w base g b1.2.1 b1.2.2) => refNumQ g base 8 _ _ w h (by omega)
  rw [hq] at Uq; rw [ha] at Ua; rw [h0] at U0; rw [h1] at U1; rw [h2] at U2
  have e1 : q.1 = x.ev := by rw [hx]
  have e2 : (⟨a.1.toArray⟩ : ByteArray) = x.s := by rw [hx]
  obtain ⟨n0, hn0⟩ : ∃ n, beVal b0.1 = n := ⟨_, rfl⟩
  obtain ⟨n1, hn1⟩ : ∃ n, beVal b1.1 = n := ⟨_, rfl⟩
  obtain ⟨n2, hn2⟩ : ∃ n, beVal b2.1 = n := ⟨_, rfl⟩
  have hw0 : wrap64 ((n0 : Nat) : Int) = x.v := by rw [hx, ← hn0]; rfl
  have hw1 : wrap64 ((n1 : Nat) : Int) = x.p := by rw [hx, ← hn1]; rfl
  have hw2 : wrap64 ((n2 : Nat) : Int) = x.t := by rw [hx, ← hn2]; rfl
  rw [e1] at Uq; rw [e2] at Ua; rw [hn0] at U0; rw [hn1] at U1; rw [hn2] at U2
  unfold evA at Uq
  obtain ⟨p, hp⟩ : ∃ p, putS x = p := ⟨_, rfl⟩
  have hput := fun w => refPutStored_any x w hxf
  rw [hp] at hput
  unfold stA at hput
  have hgt : getS b.data.toList = if endL b2.2.1 b2.2.2 ≠ 0 then (.none, endL b2.2.1 b2.2.2) else if p.2 ≠ 0 ∨ p.1 ≠ b.data.toList then (.none, 6) else (x, 0) := by unfold getS; rw [hrd]; dsimp only; rw [hp]
  have HUq := Lib.hid Uq; have HUa := Lib.hid Ua; have HU0 := Lib.hid U0; have HU1 := Lib.hid U1; have HU2 := Lib.hid U2; have Hput := Lib.hid hput; have Hgt := Lib.hid hgt
  have hbq : (⟨b.data.toList.toArray⟩ : ByteArray) = b := by cases b; simp
  obtain ⟨W0, hW0⟩ : ∃ W0, w.alloc (.cells #[.int .i64 0, .string ⟨#[]⟩, .string ⟨#[]⟩, .float .f64 0, .string ⟨#[]⟩, .int .i64 0, .int .i64 0, .int .i64 0] 38) = W0 := ⟨_, rfl⟩
  have hR : BlkIs W0 w.heap.size 38 #[.int .i64 0, .string ⟨#[]⟩, .string ⟨#[]⟩, .float .f64 0, .string ⟨#[]⟩, .int .i64 0, .int .i64 0, .int .i64 0] := by rw [← hW0]; exact BlkIs.new _ _ _
  have hb0 : Below w.heap.size w W0 := by rw [← hW0]; exact (Below.refl _ _).alloc (Nat.le_refl _) _
  obtain ⟨W1, hW1⟩ : ∃ W1, W0.alloc (.cells #[.string b, .int .i64 0] 85) = W1 := ⟨_, rfl⟩
  have hb1 : Below W0.heap.size W0 W1 := by rw [← hW1]; exact (Below.refl _ _).alloc (Nat.le_refl _) _
  have hi1 : RinQ W1 W0.heap.size W0.heap.size b.data.toList 0 := ⟨_, by rw [← hW1]; have := RinIs.new W0 b.data.toList; rw [hbq] at this; exact this, by omega, fun _ => rfl⟩
  have hgr : w.heap.size < W0.heap.size := hR.lt
  have R1 := Lib.hid (hR.below hb1 hgr); have B1 := Lib.hid (hb0.trans (hb1.mono hb0.size)); have I1 := Lib.hid hi1
  clear Uq Ua U0 U1 U2 hput hgt hq ha h0 h1 h2 hx hrd hxf e1 e2 hp hn0 hn1 hn2 hbq hR hb0 hb1 hi1
  go_enter Try.func18, Try.ntmps18
  go_wp2_with fail
  (try rw [hW0])
  (try rw [hW1])
  refine (HUq.out W0.heap.size W0.heap.size _ I1.out).mono ?_
  rintro y w2 ⟨rfl, hi, hb⟩
  have R2 := Lib.hid (R1.out.keptBy hb (by omega)); have B2 := Lib.hid (B1.out.grown hb (by exact B1.out.size) (fun q hq => by injection hq with hq; omega)); have I2 := Lib.hid hi
  have hgw : W0.heap.size < w2.heap.size := hi.lt
  clear hb hi hW0 hW1
  go_wp2_with fail

  obtain ⟨V, hV⟩ : ∃ V, w2.alloc (.cells #[.int .i64 x.ev.id, .string x.ev.ty, .string x.ev.da, .float .f64 x.ev.va, .string ⟨#[]⟩, .int .i64 0, .int .i64 0, .int .i64 0] 38) = V := ⟨_, rfl⟩
  have hbV : Below w2.heap.size w2 V := by rw [← hV]; exact (Below.refl _ _).alloc (Nat.le_refl _) _
  have E2 := Lib.hid (show BlkIs V w2.heap.size 38 #[.int .i64 x.ev.id, .string x.ev.ty, .string x.ev.da, .float .f64 x.ev.va, .string ⟨#[]⟩, .int .i64 0, .int .i64 0, .int .i64 0] by rw [← hV]; exact BlkIs.new _ _ _)
  have hE2w : w.heap.size < w2.heap.size := by omega
  have RV := Lib.hid (R2.out.below hbV R2.out.lt); have WV := Lib.hid (B2.out.trans (hbV.mono B2.out.size)); have IV := Lib.hid (I2.out.below hbV hgw)
  rw [hV]
  clear hV hbV
  refine (HUa.out W0.heap.size W0.heap.size _ IV.out).mono ?_
  rintro y w3 ⟨rfl, hi, hb⟩
  have hE := E2.out.keptBy hb (by omega); have hR := RV.out.keptBy hb (by omega); have hG := WV.out.grown hb (by exact WV.out.size) (fun q hq => by injection hq with hq; omega)
  have hce := hE.cell; have hfe := hE.free; have hle := hE.lt
  go_wp2_with fail
  have hst : (w3).grownBy ((w3).setCell ⟨w2.heap.size, 4, none⟩ (.string x.s)) (some w2.heap.size) := grown_set w3 w2.heap.size 4 (.string x.s)
  have E3 := Lib.hid (hE.put 4 (.string x.s)); have R3 := Lib.hid (hR.keptBy hst (by omega)); have G3 := Lib.hid (hG.grown hst (by exact hG.size) (fun q hq => by injection hq with hq; omega)); have I3 := Lib.hid (hi.keptBy hst (by omega))
  generalize hV3 : (w3).setCell ⟨w2.heap.size, 4, none⟩ (.string x.s) = V3 at E3 R3 G3 I3 ⊢
  clear hV3 hst hce hfe hle hE hR hG hi hb
  refine (HU0.out W0.heap.size W0.heap.size _ I3.out).mono ?_
  rintro y w4 ⟨rfl, hi, hb⟩
  have hE := E3.out.keptBy hb (by omega); have hR := R3.out.keptBy hb (by omega); have hG := G3.out.grown hb (by exact G3.out.size) (fun q hq => by injection hq with hq; omega)
  have hce := hE.cell; have hfe := hE.free; have hle := hE.lt
  go_wp2_with fail
  have hst : (w4).grownBy ((w4).setCell ⟨w2.heap.size, 5, none⟩ (.int .i64 x.v)) (some w2.heap.size) := grown_set w4 w2.heap.size 5 (.int .i64 x.v)
  have E4 := Lib.hid (hE.put 5 (.int .i64 x.v)); have R4 := Lib.hid (hR.keptBy hst (by omega)); have G4 := Lib.hid (hG.grown hst (by exact hG.size) (fun q hq => by injection hq with hq; omega)); have I4 := Lib.hid (hi.keptBy hst (by omega))
  generalize hV4 : (w4).setCell ⟨w2.heap.size, 5, none⟩ (.int .i64 x.v) = V4 at E4 R4 G4 I4 ⊢
  clear hV4 hst hce hfe hle hE hR hG hi hb
  refine (HU1.out W0.heap.size W0.heap.size _ I4.out).mono ?_
  rintro y w5 ⟨rfl, hi, hb⟩
  have hE := E4.out.keptBy hb (by omega); have hR := R4.out.keptBy hb (by omega); have hG := G4.out.grown hb (by exact G4.out.size) (fun q hq => by injection hq with hq; omega)
  have hce := hE.cell; have hfe := hE.free; have hle := hE.lt
  go_wp2_with fail
  have hst : (w5).grownBy ((w5).setCell ⟨w2.heap.size, 6, none⟩ (.int .i64 x.p)) (some w2.heap.size) := grown_set w5 w2.heap.size 6 (.int .i64 x.p)
  have E5 := Lib.hid (hE.put 6 (.int .i64 x.p)); have R5 := Lib.hid (hR.keptBy hst (by omega)); have G5 := Lib.hid (hG.grown hst (by exact hG.size) (fun q hq => by injection hq with hq; omega)); have I5 := Lib.hid (hi.keptBy hst (by omega))
  generalize hV5 : (w5).setCell ⟨w2.heap.size, 6, none⟩ (.int .i64 x.p) = V5 at E5 R5 G5 I5 ⊢
  clear hV5 hst hce hfe hle hE hR hG hi hb
  refine (HU2.out W0.heap.size W0.heap.size _ I5.out).mono ?_
  rintro y w6 ⟨rfl, hi, hb⟩
  have hE := E5.out.keptBy hb (by omega); have hR := R5.out.keptBy hb (by omega); have hG := G5.out.grown hb (by exact G5.out.size) (fun q hq => by injection hq with hq; omega)
  have hce := hE.cell; have hfe := hE.free; have hle := hE.lt
  go_wp2_with fail
  have hst : (w6).grownBy ((w6).setCell ⟨w2.heap.size, 7, none⟩ (.int .i64 x.t)) (some w2.heap.size) := grown_set w6 w2.heap.size 7 (.int .i64 x.t)
  have E6 := Lib.hid (hE.put 7 (.int .i64 x.t)); have R6 := Lib.hid (hR.keptBy hst (by omega)); have G6 := Lib.hid (hG.grown hst (by exact hG.size) (fun q hq => by injection hq with hq; omega)); have I6 := Lib.hid (hi.keptBy hst (by omega))
  generalize hV6 : (w6).setCell ⟨w2.heap.size, 7, none⟩ (.int .i64 x.t) = V6 at E6 R6 G6 I6 ⊢
  clear hV6 hst hce hfe hle hE hR hG hi hb
  have M7 := Lib.hid (show BlkIs V6 w2.heap.size 38 #[.int .i64 x.ev.id, .string x.ev.ty, .string x.ev.da, .float .f64 x.ev.va, .string x.s, .int .i64 x.v, .int .i64 x.p, .int .i64 x.t] from E6.out)
  refine (refEndQ W0.heap.size W0.heap.size b2.2.1 b2.2.2 V6 I6.out).mono ?_
  rintro y w8 ⟨rfl, hb⟩
  have R8 := Lib.hid (R6.out.keptBy hb (by omega)); have M8 := Lib.hid (M7.out.keptBy hb (by omega)); have W8 := Lib.hid (G6.out.grown hb (by exact G6.out.size) (fun q hq => by injection hq with hq; omega))
  clear hb
  have hcR := R8.out.cell; have hfR := R8.out.free; have hcM := M8.out.cell; have hRl := R8.out.lt
  by_cases z1 : endL b2.2.1 b2.2.2 = 0
  · have y1 : (endL b2.2.1 b2.2.2 != 0) = false := by simpa using z1
    go_wp2_with fail
    refine (Hput.out w8).mono ?_
    rintro y w9 ⟨rfl, hb⟩
    have R9 := Lib.hid (R8.out.below hb R8.out.lt); have M9 := Lib.hid (M8.out.below hb M8.out.lt); have W9 := Lib.hid (W8.out.trans (hb.mono W8.out.size))
    clear hb hcR hfR hcM hRl
    have hcR := R9.out.cell; have hfR := R9.out.free; have hcM := M9.out.cell; have hRl := R9.out.lt
    by_cases z2 : p.2 = 0
    · have y2 : (p.2 != 0) = false := by simpa using z2
      by_cases z3 : p.1 = b.data.toList
      · have y3 : (p.1 == b.toList) = true := by rw [ByteArray.toList_eq]; simpa using z3
        have HG : Hid (getS b.data.toList = (x, 0)) := Lib.hid (by rw [Hgt.out, if_neg (by simpa using z1), if_neg (by rintro (h | h); exact h z2; exact h z3)])
        clear z1 z2 z3
        go_wp2_with fail
        change bodyPost _ _ _ _ _ (setEight w9 w.heap.size (.int .i64 x.ev.id) (.string x.ev.ty) (.string x.ev.da) (.float .f64 x.ev.va) (.string x.s) (.int .i64 x.v) (.int .i64 x.p) (.int .i64 x.t))
        have hB9 := blk_eight R9.out (.int .i64 x.ev.id) (.string x.ev.ty) (.string x.ev.da) (.float .f64 x.ev.va) (.string x.s) (.int .i64 x.v) (.int .i64 x.p) (.int .i64 x.t)
        have hW9 := below_eight W9.out (Nat.le_refl w.heap.size) (.int .i64 x.ev.id) (.string x.ev.ty) (.string x.ev.da) (.float .f64 x.ev.va) (.string x.s) (.int .i64 x.v) (.int .i64 x.p) (.int .i64 x.t)
        generalize setEight w9 w.heap.size (.int .i64 x.ev.id) (.string x.ev.ty) (.string x.ev.da) (.float .f64 x.ev.va) (.string x.s) (.int .i64 x.v) (.int .i64 x.p) (.int .i64 x.t) = WE at hB9 hW9 ⊢
        have hcell := hB9.cell; have hfree := hB9.free; have hlt9 := hB9.lt
        clear hcR hfR hcM hRl
        refine bodyPost_ret (v := .tuple #[.agg #[.int .i64 x.ev.id, .string x.ev.ty, .string x.ev.da, .float .f64 x.ev.va, .string x.s, .int .i64 x.v, .int .i64 x.p, .int .i64 x.t], .int .i64 0]) ?_ rfl ?_
        · simp [results, Try.results18, go_sem, hcell, hfree, hlt9]
        · rw [HG.out]
          exact ⟨rfl, hW9⟩
      · have y3 : (p.1 == b.toList) = false := by rw [ByteArray.toList_eq]; simpa using z3
        have HG : Hid (getS b.data.toList = (.none, 6)) := Lib.hid (by rw [Hgt.out, if_neg (by simpa using z1), if_pos (.inr z3)])
        clear z1 z2 z3
        go_wp2_with fail
        change bodyPost _ _ _ _ _ (setEight w9 w.heap.size (.int .i64 0) (.string ⟨#[]⟩) (.string ⟨#[]⟩) (.float .f64 0) (.string ⟨#[]⟩) (.int .i64 0) (.int .i64 0) (.int .i64 0))
        have hB9 := blk_eight R9.out (.int .i64 0) (.string ⟨#[]⟩) (.string ⟨#[]⟩) (.float .f64 0) (.string ⟨#[]⟩) (.int .i64 0) (.int .i64 0) (.int .i64 0)
        have hW9 := below_eight W9.out (Nat.le_refl w.heap.size) (.int .i64 0) (.string ⟨#[]⟩) (.string ⟨#[]⟩) (.float .f64 0) (.string ⟨#[]⟩) (.int .i64 0) (.int .i64 0) (.int .i64 0)
        generalize setEight w9 w.heap.size (.int .i64 0) (.string ⟨#[]⟩) (.string ⟨#[]⟩) (.float .f64 0) (.string ⟨#[]⟩) (.int .i64 0) (.int .i64 0) (.int .i64 0) = WE at hB9 hW9 ⊢
        have hcell := hB9.cell; have hfree := hB9.free; have hlt9 := hB9.lt
        clear hcR hfR hcM hRl
        refine bodyPost_ret (v := .tuple #[.agg #[.int .i64 0, .string ⟨#[]⟩, .string ⟨#[]⟩, .float .f64 0, .string ⟨#[]⟩, .int .i64 0, .int .i64 0, .int .i64 0], .int .i64 6]) ?_ rfl ?_
        · simp [results, Try.results18, go_sem, hcell, hfree, hlt9]
        · rw [HG.out]
          exact ⟨rfl, hW9⟩
    · have y2 : (p.2 != 0) = true := by simpa using z2
      have HG : Hid (getS b.data.toList = (.none, 6)) := Lib.hid (by rw [Hgt.out, if_neg (by simpa using z1), if_pos (.inl z2)])
      clear z1 z2
      go_wp2_with fail
      change bodyPost _ _ _ _ _ (setEight w9 w.heap.size (.int .i64 0) (.string ⟨#[]⟩) (.string ⟨#[]⟩) (.float .f64 0) (.string ⟨#[]⟩) (.int .i64 0) (.int .i64 0) (.int .i64 0))
      have hB9 := blk_eight R9.out (.int .i64 0) (.string ⟨#[]⟩) (.string ⟨#[]⟩) (.float .f64 0) (.string ⟨#[]⟩) (.int .i64 0) (.int .i64 0) (.int .i64 0)
      have hW9 := below_eight W9.out (Nat.le_refl w.heap.size) (.int .i64 0) (.string ⟨#[]⟩) (.string ⟨#[]⟩) (.float .f64 0) (.string ⟨#[]⟩) (.int .i64 0) (.int .i64 0) (.int .i64 0)
      generalize setEight w9 w.heap.size (.int .i64 0) (.string ⟨#[]⟩) (.string ⟨#[]⟩) (.float .f64 0) (.string ⟨#[]⟩) (.int .i64 0) (.int .i64 0) (.int .i64 0) = WE at hB9 hW9 ⊢
      have hcell := hB9.cell; have hfree := hB9.free; have hlt9 := hB9.lt
      clear hcR hfR hcM hRl
      refine bodyPost_ret (v := .tuple #[.agg #[.int .i64 0, .string ⟨#[]⟩, .string ⟨#[]⟩, .float .f64 0, .string ⟨#[]⟩, .int .i64 0, .int .i64 0, .int .i64 0], .int .i64 6]) ?_ rfl ?_
      · simp [results, Try.results18, go_sem, hcell, hfree, hlt9]
      · rw [HG.out]
        exact ⟨rfl, hW9⟩
  · have y1 : (endL b2.2.1 b2.2.2 != 0) = true := by simpa using z1
    have HG : Hid (getS b.data.toList = (.none, endL b2.2.1 b2.2.2)) := Lib.hid (by rw [Hgt.out, if_pos z1])
    clear z1
    go_wp2_with fail
    change bodyPost _ _ _ _ _ (setEight w8 w.heap.size (.int .i64 0) (.string ⟨#[]⟩) (.string ⟨#[]⟩) (.float .f64 0) (.string ⟨#[]⟩) (.int .i64 0) (.int .i64 0) (.int .i64 0))
    have hB9 := blk_eight R8.out (.int .i64 0) (.string ⟨#[]⟩) (.string ⟨#[]⟩) (.float .f64 0) (.string ⟨#[]⟩) (.int .i64 0) (.int .i64 0) (.int .i64 0)
    have hW9 := below_eight W8.out (Nat.le_refl w.heap.size) (.int .i64 0) (.string ⟨#[]⟩) (.string ⟨#[]⟩) (.float .f64 0) (.string ⟨#[]⟩) (.int .i64 0) (.int .i64 0) (.int .i64 0)
    generalize setEight w8 w.heap.size (.int .i64 0) (.string ⟨#[]⟩) (.string ⟨#[]⟩) (.float .f64 0) (.string ⟨#[]⟩) (.int .i64 0) (.int .i64 0) (.int .i64 0) = WE at hB9 hW9 ⊢
    have hcell := hB9.cell; have hfree := hB9.free; have hlt9 := hB9.lt
    clear hcR hfR hcM hRl
    refine bodyPost_ret (v := .tuple #[.agg #[.int .i64 0, .string ⟨#[]⟩, .string ⟨#[]⟩, .float .f64 0, .string ⟨#[]⟩, .int .i64 0, .int .i64 0, .int .i64 0], .int .i64 (endL b2.2.1 b2.2.2)]) ?_ rfl ?_
    · simp [results, Try.results18, go_sem, hcell, hfree, hlt9]
    · rw [HG.out]
      exact ⟨rfl, hW9⟩
theorem refSameEvent_any (a b : Ev) (w : World) : Calls Try.prog 22 #[evA a, evA b] w fun e w' => e = .returned (.bool (sameE a b)) ∧ Below w.heap.size w w' := by
  obtain ⟨i, t, d, v⟩ := a
  obtain ⟨i2, t2, d2, v2⟩ := b
  unfold evA sameE
  dsimp only
  have hs := refSame7f_any v v2
  have hb1 : Below w.heap.size w ((w.alloc (.cells #[.int .i64 i, .string t, .string d, .float .f64 v] 33)).alloc (.cells #[.int .i64 i2, .string t2, .string d2, .float .f64 v2] 33)) := ((Below.refl _ _).alloc (Nat.le_refl _) _).alloc (by simp) _
  have Hb := Lib.hid hb1; have Hs := Lib.hid hs
  have q2 := str_beq t t2
  have q3 := str_beq d d2
  clear hb1 hs
  by_cases h1 : i = i2
  · have e1 : (i == i2) = true := by simpa using h1
    rw [decide_eq_true h1]
    by_cases h2 : t = t2
    · rw [decide_eq_true h2] at q2
      rw [decide_eq_true h2]
      by_cases h3 : d = d2
      · rw [decide_eq_true h3] at q3
        rw [decide_eq_true h3]
        generalize decide (canB v = canB v2) = x at Hs ⊢
        clear h1 h2 h3
        go_enter Try.func22, Try.ntmps22
        go_wp2_with fail
        refine (Hs.out _).mono ?_
        rintro e w1 ⟨rfl, rfl⟩
        go_wp2_with fail
        go_ret
        exact ⟨rfl, Hb.out⟩
      · rw [decide_eq_false h3] at q3
        rw [decide_eq_false h3]
        clear h1 h2 h3
        go_enter Try.func22, Try.ntmps22
        go_wp2_with fail
        go_ret
        exact ⟨rfl, Hb.out⟩
    · rw [decide_eq_false h2] at q2
      rw [decide_eq_false h2]
      clear h1 h2 q3
      go_enter Try.func22, Try.ntmps22
      go_wp2_with fail
      go_ret
      exact ⟨rfl, Hb.out⟩
  · have e1 : (i == i2) = false := by simpa using h1
    rw [decide_eq_false h1]
    clear h1 q2 q3
    go_enter Try.func22, Try.ntmps22
    go_wp2_with fail
    go_ret
    exact ⟨rfl, Hb.out⟩

theorem refSameStored_any (a b : St) (w : World) : Calls Try.prog 19 #[stA a, stA b] w fun e w' => e = .returned (.bool (sameS a b)) ∧ Below w.heap.size w w' := by
  obtain ⟨⟨i, t, d, f⟩, s, v, p, z⟩ := a
  obtain ⟨⟨i2, t2, d2, f2⟩, s2, v2, p2, z2⟩ := b
  have hs := fun w => refSameEvent_any ⟨i, t, d, f⟩ ⟨i2, t2, d2, f2⟩ w
  unfold stA sameS
  unfold evA at hs
  dsimp only at hs ⊢
  generalize sameE ⟨i, t, d, f⟩ ⟨i2, t2, d2, f2⟩ = x at hs ⊢
  obtain ⟨W0, hW0⟩ : ∃ W0, w.alloc (.cells #[.int .i64 i, .string t, .string d, .float .f64 f, .string s, .int .i64 v, .int .i64 p, .int .i64 z] 38) = W0 := ⟨_, rfl⟩
  have hA : BlkIs W0 w.heap.size 38 #[.int .i64 i, .string t, .string d, .float .f64 f, .string s, .int .i64 v, .int .i64 p, .int .i64 z] := by rw [← hW0]; exact BlkIs.new _ _ _
  have hb0 : Below w.heap.size w W0 := by rw [← hW0]; exact (Below.refl _ _).alloc (Nat.le_refl _) _
  obtain ⟨W1, hW1⟩ : ∃ W1, W0.alloc (.cells #[.int .i64 i2, .string t2, .string d2, .float .f64 f2, .string s2, .int .i64 v2, .int .i64 p2, .int .i64 z2] 38) = W1 := ⟨_, rfl⟩
  have hB : BlkIs W1 W0.heap.size 38 #[.int .i64 i2, .string t2, .string d2, .float .f64 f2, .string s2, .int .i64 v2, .int .i64 p2, .int .i64 z2] := by rw [← hW1]; exact BlkIs.new _ _ _
  have hb1 : Below W0.heap.size W0 W1 := by rw [← hW1]; exact (Below.refl _ _).alloc (Nat.le_refl _) _
  have HA := Lib.hid (hA.below hb1 hA.lt); have HB := Lib.hid hB; have Hb := Lib.hid (hb0.trans (hb1.mono hb0.size)); have Hs := Lib.hid hs
  have hcA := HA.out.cell; have hcB := hB.cell
  have q4 := str_beq s s2
  clear hA hB hb0 hb1 hs
  cases x with
  | false =>
    go_enter Try.func19, Try.ntmps19
    go_wp2_with fail
    (try rw [hW0])
    (try rw [hW1])
    refine (Hs.out _).mono ?_
    rintro e w1 ⟨rfl, hb⟩
    have B1 := Lib.hid (Hb.out.trans (hb.mono Hb.out.size))
    clear hb
    go_wp2_with fail
    go_ret
    exact ⟨by simp, B1.out⟩
  | true =>
    have hcs : s ≠ s2 ∨ (s = s2 ∧ v ≠ v2) ∨ (s = s2 ∧ v = v2 ∧ p ≠ p2) ∨ (s = s2 ∧ v = v2 ∧ p = p2) := by
      by_cases h1 : s = s2
      · by_cases h2 : v = v2
        · by_cases h3 : p = p2
          · exact .inr (.inr (.inr ⟨h1, h2, h3⟩))
          · exact .inr (.inr (.inl ⟨h1, h2, h3⟩))
        · exact .inr (.inl ⟨h1, h2⟩)
      · exact .inl h1
    have e4 : ∀ x y : Int, (x == y) = decide (x = y) := fun x y => by rw [Bool.eq_iff_iff, beq_iff_eq, decide_eq_true_eq]
    have q5 := e4 v v2; have q6 := e4 p p2
    clear e4
    rcases hcs with h1 | ⟨h1, h2⟩ | ⟨h1, h2, h3⟩ | ⟨h1, h2, h3⟩
    · rw [decide_eq_false h1] at q4 ⊢
      clear h1
      go_enter Try.func19, Try.ntmps19
      go_wp2_with fail
      (try rw [hW0])
      (try rw [hW1])
      refine (Hs.out _).mono ?_
      rintro e w1 ⟨rfl, hb⟩
      have A1 := HA.out.below hb HA.out.lt; have B1 := HB.out.below hb HB.out.lt
      have hcA1 := A1.cell; have hcB1 := B1.cell
      have T1 := Lib.hid (Hb.out.trans (hb.mono Hb.out.size))
      clear hb A1 B1 hcA hcB
      go_wp2_with fail
      go_ret
      exact ⟨by simp, T1.out⟩
    · rw [decide_eq_true h1] at q4 ⊢
      rw [decide_eq_false h2] at q5 ⊢
      clear h1 h2
      go_enter Try.func19, Try.ntmps19
      go_wp2_with fail
      (try rw [hW0])
      (try rw [hW1])
      refine (Hs.out _).mono ?_
      rintro e w1 ⟨rfl, hb⟩
      have A1 := HA.out.below hb HA.out.lt; have B1 := HB.out.below hb HB.out.lt
      have hcA1 := A1.cell; have hcB1 := B1.cell
      have T1 := Lib.hid (Hb.out.trans (hb.mono Hb.out.size))
      clear hb A1 B1 hcA hcB
      go_wp2_with fail
      go_ret
      exact ⟨by simp, T1.out⟩
    · rw [decide_eq_true h1] at q4 ⊢
      rw [decide_eq_true h2] at q5 ⊢
      rw [decide_eq_false h3] at q6 ⊢
      clear h1 h2 h3
      go_enter Try.func19, Try.ntmps19
      go_wp2_with fail
      (try rw [hW0])
      (try rw [hW1])
      refine (Hs.out _).mono ?_
      rintro e w1 ⟨rfl, hb⟩
      have A1 := HA.out.below hb HA.out.lt; have B1 := HB.out.below hb HB.out.lt
      have hcA1 := A1.cell; have hcB1 := B1.cell
      have T1 := Lib.hid (Hb.out.trans (hb.mono Hb.out.size))
      clear hb A1 B1 hcA hcB
      go_wp2_with fail
      go_ret
      exact ⟨by simp, T1.out⟩
    · rw [decide_eq_true h1] at q4 ⊢
      rw [decide_eq_true h2] at q5 ⊢
      rw [decide_eq_true h3] at q6 ⊢
      clear h1 h2 h3
      go_enter Try.func19, Try.ntmps19
      go_wp2_with fail
      (try rw [hW0])
      (try rw [hW1])
      refine (Hs.out _).mono ?_
      rintro e w1 ⟨rfl, hb⟩
      have A1 := HA.out.below hb HA.out.lt; have B1 := HB.out.below hb HB.out.lt
      have hcA1 := A1.cell; have hcB1 := B1.cell
      have T1 := Lib.hid (Hb.out.trans (hb.mono Hb.out.size))
      clear hb A1 B1 hcA hcB
      go_wp2_with fail
      go_ret
      exact ⟨by simp [Bool.beq_eq_decide_eq], T1.out⟩
end Go.Proofs.Ytfpalamoaflilaa
