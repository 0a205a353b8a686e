/- chronicleref20.ReadBallot, walked. -/
import Derived.Test.YtbcbjibbeieaiaaRefMaj
import Derived.Test.YtbcbjibbeieaiaaRefInG
import Derived.Test.YtbcbjibbeieaiaaRefFirst
namespace Go.Proofs.Ytbcbjibbeieaiaa
open Go.RowKit
set_option maxHeartbeats 4000000
set_option maxRecDepth 100000
set_option linter.unusedVariables false

theorem allL_lay : ∀ k b, layAll (allL k b).1 = b.take (allL k b).2
  | 0, b => by simp [allL, layAll]
  | k + 1, b => by
    simp only [allL]
    split
    · rename_i h
      have ho := first_ok (b := b) (x := (firstL b).1) (m := (firstL b).2.1) (by rw [← h])
      simp only []
      rw [layAll_cons, allL_lay k, ← ho.2.2.2, List.take_add]
    · simp [layAll]
theorem framesL_lay (b : List UInt8) : layAll (framesL b).1 = b.take (framesL b).2 := allL_lay _ _
theorem layAll_sum (F : List (List UInt8)) : (layAll F).length = (F.map fun x => x.length + 12).sum := by
  induction F with
  | nil => rfl
  | cons b l ih => rw [layAll_cons, List.length_append, frameL_length, ih, List.map_cons, List.sum_cons]
theorem frame_at {F : List (List UInt8)} {b : List UInt8} {N : Nat} (hl : layAll F = b.take N) {k : Nat} {x : List UInt8} (h : F[k]? = some x) :
    (b.drop (sumTo F k)).take (x.length + 12) = frameL x ∧ sumTo F k + (x.length + 12) ≤ b.length := by
  obtain ⟨hk, hx⟩ := List.getElem?_eq_some_iff.1 h
  have hd : F = F.take k ++ x :: F.drop (k + 1) := by
    conv => lhs; rw [← List.take_append_drop k F, List.drop_eq_getElem_cons hk, hx]
  have hb : b = layAll (F.take k) ++ (frameL x ++ (layAll (F.drop (k + 1)) ++ b.drop N)) := by
    conv => lhs; rw [← List.take_append_drop N b, ← hl, hd, layAll_append, layAll_cons, List.append_assoc, List.append_assoc]
  have hs : (layAll (F.take k)).length = sumTo F k := layAll_sum _
  have hfl := frameL_length x
  constructor
  · conv => lhs; rw [hb]
    rw [List.drop_left' hs, List.take_left' hfl]
  · have := congrArg List.length hb
    rw [List.length_append, List.length_append, hs, hfl] at this
    omega
theorem one_lay {x : List UInt8} (h : x.length = 16) : ballotL (oneL x).1 = x := by
  have h1 : inTake 8 x 0 = (x.take 8, x.drop 8, 0) := inTake_ok (by omega)
  have h2 : inTake 8 (x.drop 8) 0 = ((x.drop 8).take 8, (x.drop 8).drop 8, 0) := inTake_ok (by rw [List.length_drop]; omega)
  unfold oneL ballotL
  rw [h1]
  simp only []
  rw [h2]
  simp only []
  rw [be64_i64L _ (by rw [List.length_take]; omega), be64_i64L _ (by rw [List.length_take, List.length_drop]; omega), show (x.drop 8).take 8 = x.drop 8 from List.take_of_length_le (by rw [List.length_drop]; omega), List.take_append_drop]

theorem own_at21 {w : World} {base : Nat} {e : TypeId} {size n m c : Nat} {A : Option Addr} {xs : List Value} (h : w.ownsRow base e size (.slice A n c) m xs) : ∀ ad, A = some ad → base ≤ ad.block := by
  intro ad hA
  subst hA
  rcases h.2 with ⟨h0, _⟩ | ⟨g', cap, cur, hv, hbg, hh, _⟩
  · cases h0
  · obtain rfl : ad = ⟨g', 0, none⟩ := by injection hv with h1; injection h1
    exact hbg
theorem far_two21 {w : World} {g : Nat} {p : Addr} {u v0 v1 : Value} (h : w.cell? p = some u) (hp : p.block ≠ g) : ((w.setCell ⟨g, 0, none⟩ v0).setCell ⟨g, 1, none⟩ v1).cell? p = some u :=
  (World.cell?_setCell_other _ _ _ _ (fun e => hp (by rw [← e]))).trans ((World.cell?_setCell_other _ _ _ _ (fun e => hp (by rw [← e]))).trans h)

theorem refReadBallot_any (s : ByteArray) (w : World) (hs : s.size ≤ 1000000000) :
    Calls Try.prog 16 #[.string s] w fun e w' =>
      e = .returned (.tuple #[.agg #[.int .i64 (readBytes s.data.toList).1.1, .int .i64 (readBytes s.data.toList).1.2], .int .i64 ((readBytes s.data.toList).2 : Nat)]) ∧ Below w.heap.size w w' := by
  obtain ⟨L, hL⟩ : ∃ L, s.data.toList = L := ⟨_, rfl⟩
  have hLs : s.size = L.length := by rw [← hL]; exact size_list s
  have hfr := fun w => refFrames_any s w hs
  rw [hL] at hfr ⊢
  have hlay := framesL_lay L
  have hfewL := framesL_few L
  obtain ⟨A, hA⟩ : ∃ A, framesL L = A := ⟨_, rfl⟩
  have hrb : readBytes L = readV A.1 (0, -1) 0 := by unfold readBytes; rw [hA]
  rw [hA] at hfr hlay hfewL
  obtain ⟨F, n⟩ := A
  simp only [] at hfr hlay hrb hfewL
  have hF4 : ∀ (k : Nat) (x : List UInt8), F[k]? = some x → x.length ≤ 1000000000 := fun k x h => by have := (frame_at hlay h).2; omega
  have Hfr := Lib.hid hfr; have Hlay := Lib.hid hlay; have Hrb := Lib.hid hrb; have HLs := Lib.hid hLs; have HL := Lib.hid hL; have HF4 := Lib.hid hF4
  have hF9 : F.length ≤ 1000000000 := by omega
  clear hfr hlay hrb hLs hL hfewL hA hF4
  have hzA := (BlkIs.new w 39 #[.int .i64 0, .int .i64 0]).alloc (.cells #[.int .i64 0, .int .i64 (-1)] 39)
  have hzB := BlkIs.new (w.alloc (.cells #[.int .i64 0, .int .i64 0] 39)) 39 #[.int .i64 0, .int .i64 (-1)]
  rw [show (w.alloc (.cells #[.int .i64 0, .int .i64 0] 39)).heap.size = w.heap.size + 1 from by simp] at hzB
  have HzA := Lib.hid hzA; have HzB := Lib.hid hzB
  clear hzA hzB
  go_enter Try.func16, Try.ntmps16
  go_wp2_with fail
  refine (Hfr.out _).mono ?_
  rintro e w1 ⟨v, rfl, hown1, hb1⟩
  obtain ⟨Ar, cr, rfl, hcr⟩ := own_slice hown1
  have hA1 := HzA.out.below hb1 (by simp; omega)
  have hB1 := HzB.out.below hb1 (by simp)
  have hr1 := SlR.own hown1
  have hoat := own_at21 hown1
  rw [show ((w.alloc (.cells #[.int .i64 0, .int .i64 0] 39)).alloc (.cells #[.int .i64 0, .int .i64 (-1)] 39)).heap.size = w.heap.size + 2 from by simp] at hoat
  have Hoat := Lib.hid hoat
  have hbw1 : Below w.heap.size w w1 := (((Below.refl _ _).alloc (Nat.le_refl _) _).alloc (by simp) _).trans (hb1.mono (by simp; omega))
  have hs1 : w.heap.size + 1 < w1.heap.size := hB1.lt
  obtain ⟨H, hH⟩ : ∃ H, w1.heap.size = H := ⟨_, rfl⟩
  rw [hH] at hr1 hs1
  have HA1 := Lib.hid hA1; have HB1 := Lib.hid hB1; have Hr1 := Lib.hid hr1; have Hbw1 := Lib.hid hbw1; have HH := Lib.hid hH
  clear hown1 hb1 hA1 hB1 hr1 hbw1 hH hoat
  go_wp2_with fail
  go_loopw [5, 8] (fun a i wr => ∃ (k : Nat) (T G : Int), k ≤ F.length ∧ i = .int .i64 k ∧ a = .int .i64 (sumTo F k : Nat) ∧ BlkIs wr w.heap.size 39 #[.int .i64 0, .int .i64 0] ∧ BlkIs wr (w.heap.size + 1) 39 #[.int .i64 T, .int .i64 G] ∧
      SlR wr H 1 Ar F.length (strVs (F.map mkS)) ∧ H ≤ wr.heap.size ∧ readBytes L = readV (F.drop k) (T, G) (sumTo F k) ∧ Below w.heap.size w wr) (fun _ i _ => F.length - (intOf i).toNat)
  case atStart => exact ⟨0, 0, -1, Nat.zero_le _, rfl, rfl, HA1.out, HB1.out, Hr1.out, Nat.le_of_eq HH.out.symm, Hrb.out, Hbw1.out⟩
  case round =>
    obtain ⟨k, T, G, hk, rfl, rfl, hAr, hBr, hrow, hszr, hrd, hb⟩ := hrel
    have HAr := Lib.hid hAr; have HBr := Lib.hid hBr; have Hrow := Lib.hid hrow; have Hrd := Lib.hid hrd
    by_cases hlt : k < F.length
    · obtain ⟨ad, u, hAd, had, hu, hcell⟩ := Hrow.out.get hlt
      subst hAd
      obtain ⟨sx, hsx, rfl⟩ := strVs_get hu
      simp only [List.getElem?_map, Option.map_eq_some_iff] at hsx
      obtain ⟨x, hx, rfl⟩ := hsx
      obtain ⟨hfx, hfx2⟩ := frame_at Hlay.out hx
      have hx9 := HF4.out k x hx
      have hstep := readV_step F k x hx (T, G) (sumTo F k)
      have hsucc := sumTo_succ F k x hx
      unfold mkS at hcell
      obtain ⟨a1, ha1⟩ : ∃ a1, inTake 8 x 0 = a1 := ⟨_, rfl⟩
      obtain ⟨a2, ha2⟩ : ∃ a2, inTake 8 a1.2.1 a1.2.2 = a2 := ⟨_, rfl⟩
      have hl1 : a1.2.1.length ≤ 1000000000 := by
        rw [← ha1]; unfold inTake; split
        · exact hx9
        · split
          · exact hx9
          · simp only [List.length_drop]; omega
      have hl2 : a2.2.1.length ≤ 1000000000 := by
        rw [← ha2]; unfold inTake; split
        · exact hl1
        · split
          · exact hl1
          · simp only [List.length_drop]; omega
      have hend := oneEnd x
      rw [ha1, ha2] at hend
      have hv : oneL x = ((i64L a1.1, i64L a2.1), decide (x.length = 16) && rightV (i64L a1.1, i64L a2.1)) := by unfold oneL; rw [ha1, ha2]
      obtain ⟨T1, hT1⟩ : ∃ T1, i64L a1.1 = T1 := ⟨_, rfl⟩
      obtain ⟨G1, hG1⟩ : ∃ G1, i64L a2.1 = G1 := ⟨_, rfl⟩
      have hw1 : wrap64 ((inNum 8 x 0 : Nat) : Int) = T1 := by unfold inNum; rw [ha1]; exact hT1
      have hw2 : wrap64 ((inNum 8 a1.2.1 a1.2.2 : Nat) : Int) = G1 := by unfold inNum; rw [ha2]; exact hG1
      obtain ⟨E, hE⟩ : ∃ E, endL a2.2.1 a2.2.2 = E := ⟨_, rfl⟩
      rw [hE] at hend
      rw [hT1, hG1] at hv
      obtain ⟨PV, hPV⟩ : ∃ PV, putV (T1, G1) = PV := ⟨_, rfl⟩
      have hput := fun w => refPutBallot_any T1 G1 w
      rw [hPV] at hput
      have i1 : (k : Int) < (F.length : Int) := by omega
      have i0 : 0 ≤ (k : Int) := by omega
      have Ha1 := Lib.hid ha1; have Ha2 := Lib.hid ha2; have Hw1 := Lib.hid hw1; have Hw2 := Lib.hid hw2; have HE := Lib.hid hE; have Hput := Lib.hid hput; have Hv := Lib.hid hv; have Hstep := Lib.hid hstep; have Hsucc := Lib.hid hsucc; have Hfx := Lib.hid hfx; have HPV := Lib.hid hPV; have Hx := Lib.hid hx; have Hend := Lib.hid hend
      clear ha1 ha2 hw1 hw2 hT1 hG1 hE hput hv hstep hsucc hfx hPV hx hend hAr hBr hrow hrd hu had
      go_wp2_with fail
      refine (refInNumG wr.heap.size wr.heap.size 8 x 0 _ (by have h := RinIs.new wr x; exact h) (by omega) (by omega)).mono ?_
      rintro e w2 ⟨rfl, hi2, hg2⟩
      rw [Ha1.out] at hi2
      have hA2 := (HAr.out.alloc (.cells #[.string ⟨x.toArray⟩, .int .i64 0] 79)).grown hg2 (by simp; omega)
      have hB2 := (HBr.out.alloc (.cells #[.string ⟨x.toArray⟩, .int .i64 0] 79)).grown hg2 (by simp; omega)
      have hr2 := (Hrow.out.alloc hszr (.cells #[.string ⟨x.toArray⟩, .int .i64 0] 79)).grown hg2 (by simp; omega) (fun b hb => by simp at hb; omega)
      have hb2 : Below w.heap.size w w2 := (hb.alloc hb.size _).grown hg2 (by have := hb.size; simp; omega) (fun b hb3 => by simp at hb3; have := hb.size; omega)
      have hs2 : wr.heap.size < w2.heap.size := hi2.lt
      have Hi2 := Lib.hid hi2; have HA2 := Lib.hid hA2; have HB2 := Lib.hid hB2; have Hr2 := Lib.hid hr2; have Hb2 := Lib.hid hb2
      clear hi2 hA2 hB2 hr2 hb2 hg2
      go_wp2_with fail
      rw [Hw1.out]
      have hX3 := BlkIs.new w2 39 #[.int .i64 T1, .int .i64 0]
      obtain ⟨w3, hw3⟩ : ∃ w3, w2.alloc (.cells #[.int .i64 T1, .int .i64 0] 39) = w3 := ⟨_, rfl⟩
      rw [hw3] at hX3 ⊢
      have hi3 : RinIs w3 wr.heap.size wr.heap.size a1.2.1 a1.2.2 := by rw [← hw3]; exact Hi2.out.alloc _
      have hA3 : BlkIs w3 w.heap.size 39 #[.int .i64 0, .int .i64 0] := by rw [← hw3]; exact HA2.out.alloc _
      have hB3 : BlkIs w3 (w.heap.size + 1) 39 #[.int .i64 T, .int .i64 G] := by rw [← hw3]; exact HB2.out.alloc _
      have hr3 : SlR w3 H 1 (some ad) F.length (strVs (F.map mkS)) := by rw [← hw3]; exact Hr2.out.alloc (by omega) _
      have hb3 : Below w.heap.size w w3 := by rw [← hw3]; exact Hb2.out.alloc Hb2.out.size _
      have hs3 : w2.heap.size < w3.heap.size := hX3.lt
      have Hi3 := Lib.hid hi3; have HA3 := Lib.hid hA3; have HB3 := Lib.hid hB3; have Hr3 := Lib.hid hr3; have Hb3 := Lib.hid hb3; have HX3 := Lib.hid hX3
      clear hi3 hA3 hB3 hr3 hb3 hX3 hw3
      refine (refInNumG wr.heap.size wr.heap.size 8 a1.2.1 a1.2.2 w3 Hi3.out hl1 (by omega)).mono ?_
      rintro e w4 ⟨rfl, hi4, hg4⟩
      rw [Ha2.out] at hi4
      have hX4 := HX3.out.grown hg4 (by simp; omega)
      have hA4 := HA3.out.grown hg4 (by simp; omega)
      have hB4 := HB3.out.grown hg4 (by simp; omega)
      have hr4 := Hr3.out.grown hg4 (by omega) (fun b hb => by simp at hb; omega)
      have hb4 : Below w.heap.size w w4 := Hb3.out.grown hg4 Hb3.out.size (fun b hb5 => by simp at hb5; have := hb.size; omega)
      have hs4 : w3.heap.size ≤ w4.heap.size := hg4.size
      have hx0 := hX4.cell 0; have hx1 := hX4.cell 1; have hxf := hX4.free 1; have hxl := hX4.lt
      simp at hx0 hx1
      have Hi4 := Lib.hid hi4; have HA4 := Lib.hid hA4; have HB4 := Lib.hid hB4; have Hr4 := Lib.hid hr4; have Hb4 := Lib.hid hb4; have HX4 := Lib.hid hX4
      clear hi4 hA4 hB4 hr4 hb4 hX4 hg4
      go_wp2_with fail
      rw [Hw2.out]
      obtain ⟨w5, hw5⟩ : ∃ w5, w4.setCell ⟨w2.heap.size, 1, none⟩ (.int .i64 G1) = w5 := ⟨_, rfl⟩
      rw [hw5]
      have hs5 : w5.heap.size = w4.heap.size := by rw [← hw5]; simp [World.setCell]
      have hX5 : BlkIs w5 w2.heap.size 39 #[.int .i64 T1, .int .i64 G1] := by rw [← hw5]; exact HX4.out.put 1 _
      have hi5 : RinIs w5 wr.heap.size wr.heap.size a2.2.1 a2.2.2 := by rw [← hw5]; exact ⟨Hi4.out.1, Hi4.out.2.far (by simp; omega) _⟩
      have hA5 : BlkIs w5 w.heap.size 39 #[.int .i64 0, .int .i64 0] := by rw [← hw5]; exact HA4.out.far (by simp; omega) _
      have hB5 : BlkIs w5 (w.heap.size + 1) 39 #[.int .i64 T, .int .i64 G] := by rw [← hw5]; exact HB4.out.far (by simp; omega) _
      have hr5 : SlR w5 H 1 (some ad) F.length (strVs (F.map mkS)) := by rw [← hw5]; exact Hr4.out.set (p := ⟨w2.heap.size, 1, none⟩) (by show H ≤ w2.heap.size; omega) _
      have hb5 : Below w.heap.size w w5 := by rw [← hw5]; exact Hb4.out.setCell (p := ⟨w2.heap.size, 1, none⟩) (by show w.heap.size ≤ w2.heap.size; omega) _
      clear hx0 hx1 hxf hxl hw5
      have Hi5 := Lib.hid hi5; have HA5 := Lib.hid hA5; have HB5 := Lib.hid hB5; have Hr5 := Lib.hid hr5; have Hb5 := Lib.hid hb5; have HX5 := Lib.hid hX5
      clear hi5 hA5 hB5 hr5 hb5 hX5
      refine (Hput.out _).mono ?_
      rintro e w6 ⟨rfl, hb6⟩
      have hX6 := HX5.out.below hb6 HX5.out.lt
      have hi6 := Hi5.out.below hb6 Hi5.out.lt
      have hA6 := HA5.out.below hb6 HA5.out.lt
      have hB6 := HB5.out.below hb6 HB5.out.lt
      have hr6 := Hr5.out.below (hb6.mono (by omega))
      have hbb6 := Hb5.out.trans (hb6.mono Hb5.out.size)
      have hs6 : w5.heap.size ≤ w6.heap.size := hb6.size
      have Hi6 := Lib.hid hi6; have HA6 := Lib.hid hA6; have HB6 := Lib.hid hB6; have Hr6 := Lib.hid hr6; have Hb6 := Lib.hid hbb6; have HX6 := Lib.hid hX6
      clear hi6 hA6 hB6 hr6 hbb6 hX6 hb6
      go_wp2_with fail
      refine (refEndG wr.heap.size wr.heap.size a2.2.1 a2.2.2 w6 Hi6.out hl2).mono ?_
      rintro e w7 ⟨rfl, hg7⟩
      rw [HE.out]
      have hX7 := HX6.out.grown hg7 (by simp; omega)
      have hA7 := HA6.out.grown hg7 (by simp; omega)
      have hB7 := HB6.out.grown hg7 (by simp; omega)
      have hr7 := Hr6.out.grown hg7 (by omega) (fun b hb => by simp at hb; omega)
      have hb7 : Below w.heap.size w w7 := Hb6.out.grown hg7 Hb6.out.size (fun b hb5 => by simp at hb5; have := hb.size; omega)
      have hs7 : w6.heap.size ≤ w7.heap.size := hg7.size
      clear hg7
      have hvt := Hv.out
      have hen := Hend.out
      by_cases h16 : x.length = 16
      · rw [decide_eq_true h16] at hvt hen
        have e0 : (E != 0) = false := by rw [bne_eq_false_iff_eq]; exact beq_iff_eq.1 hen
        have hlb := one_lay h16
        rw [hvt] at hlb
        cases hrv : rightV (T1, G1) with
        | true =>
          have hpv : PV = (frameL x, 0) := by rw [← HPV.out]; unfold putV; rw [if_pos hrv, hlb]
          subst hpv
          have hst := Hstep.out
          rw [hvt, hrv] at hst
          simp only [Bool.and_true, if_true] at hst
          have hrd2 := Hrd.out
          rw [hst] at hrd2
          obtain ⟨S, hS⟩ : ∃ S, sumTo F k = S := ⟨_, rfl⟩
          have hsu := Hsucc.out
          rw [hS] at hsu hrd2 hfx2 ⊢
          have hcut : (s.extract S (S + x.length + 12)).data.toList = frameL x := by rw [str_cut, show S + x.length + 12 - S = x.length + 12 from by omega, HL.out, ← Hfx.out, hS]
          have hne : (!frameL x == (s.extract S (S + x.length + 12)).toList) = false := by rw [ByteArray.toList_eq, hcut]; simp
          obtain ⟨FX, hFX⟩ : ∃ FX, frameL x = FX := ⟨_, rfl⟩
          rw [hFX] at hne ⊢
          obtain ⟨ad7, u7, hA7', had7, hu7, hcell7⟩ := hr7.get hlt
          cases hA7'
          obtain ⟨sx7, hsx7, rfl⟩ := strVs_get hu7
          simp only [List.getElem?_map, Option.map_eq_some_iff] at hsx7
          obtain ⟨x7, hx7, rfl⟩ := hsx7
          rw [Hx.out] at hx7
          injection hx7 with hx7
          subst hx7
          unfold mkS at hcell7
          have hb1' : S + x.length + 12 ≤ s.size := by have := HLs.out; omega
          have HX7 := Lib.hid hX7; have HA7 := Lib.hid hA7; have HB7 := Lib.hid hB7; have Hr7 := Lib.hid hr7; have Hb7 := Lib.hid hb7; have Hrd2 := Lib.hid hrd2; have Hsu := Lib.hid hsu
          have q0 := hX7.cell 0; have q1 := hX7.cell 1; have p0 := hB7.cell 0; have p1 := hB7.cell 1; have pf := hB7.free 0; have pf1 := hB7.free 1; have pl := hB7.lt
          simp at q0 q1 p0 p1
          have hn2 : (ad.add k).block ≠ w.heap.size + 1 := by rw [add_block]; have := Hoat.out ad rfl; omega
          have hn1 : w2.heap.size ≠ w.heap.size + 1 := by omega
          have hne8 : ∀ i j, (⟨w2.heap.size, i, none⟩ : Addr) ≠ ⟨w.heap.size + 1, j, none⟩ := fun i j e => by injection e with e; omega
          clear hX7 hA7 hB7 hr7 hb7 hrd2 hsu hst hvt hen hlb hrv hcut hS hFX hu7 h16
          clear hne8
          go_wp2_with fail
          go_region_held3 (fun wx => wx.cell? ⟨w2.heap.size, 0, none⟩ = some (.int .i64 T1) ∧ wx.cell? ⟨w2.heap.size, 1, none⟩ = some (.int .i64 G1) ∧ wx.cell? (ad.add k) = some (.string ⟨x.toArray⟩))
            (first | exact ⟨q0, q1, hcell7⟩ | exact ⟨far_two21 q0 hn1, far_two21 q1 hn1, far_two21 hcell7 hn2⟩ | go_keep) (fail)
          all_goals
            go_wp2_with fail
            go_roundw
            case rel =>
              refine ⟨k + 1, T1, G1, by omega, by go_num, by rw [Hsu.out]; first | go_num | (simp only [size_mk, IntWalk.i64_in ((S : Int) + (x.length : Int)) (by omega), IntWalk.i64_in ((S : Int) + (x.length : Int) + 12) (by omega)]; go_num), ?_, ?_, ?_, ?_, ?_, ?_⟩
              · exact ((HA7.out.far (p := ⟨w.heap.size + 1, 0, none⟩) (by simp) (.int .i64 T1)).far (p := ⟨w.heap.size + 1, 1, none⟩) (by simp) (.int .i64 G1)).drew
              · exact ((HB7.out.put 0 (.int .i64 T1)).put 1 (.int .i64 G1)).drew
              · refine ⟨by have := Hr7.out.len; exact this, fun hn => ?_⟩
                obtain ⟨ad9, e9, hb9, hc9⟩ := Hr7.out.cells hn
                exact ⟨ad9, e9, hb9, fun j u hu => far_two21 (hc9 j u hu) (by rw [add_block]; have := Hoat.out ad9 e9; omega)⟩
              · show H ≤ ((w7.setCell _ _).setCell _ _).heap.size; simp only [World.setCell, Array.size_modify]; omega
              · rw [Hsu.out, ← Nat.add_assoc]; exact Hrd2.out
              · exact below_drewN ((Hb7.out.setCell (p := ⟨w.heap.size + 1, 0, none⟩) (by simp) (.int .i64 T1)).setCell (p := ⟨w.heap.size + 1, 1, none⟩) (by simp) (.int .i64 G1)) 1
            case measure => simp [intOf]; omega
        | false =>
          have hpv : PV = ([], 1) := by rw [← HPV.out]; unfold putV; rw [if_neg (by rw [hrv]; simp)]
          subst hpv
          have hst := Hstep.out
          rw [hvt, hrv] at hst
          rw [if_neg (by simp)] at hst
          have hfin : readBytes L = ((T, G), sumTo F k) := Hrd.out.trans hst
          have Hfin := Lib.hid hfin
          clear hfin hst hvt hen h16 hr7 hX7 hlb hrv
          have hcA := hA7.cell
          have hcB := hB7.cell
          have hfA := hA7.free
          have hlA := hA7.lt
          have hlB := hB7.lt
          go_wp2_with fail
          have hF := (hA7.put 0 (.int .i64 T)).put 1 (.int .i64 G)
          have hbF := (hb7.setCell (p := ⟨w.heap.size, 0, none⟩) (Nat.le_refl _) (.int .i64 T)).setCell (p := ⟨w.heap.size, 1, none⟩) (Nat.le_refl _) (.int .i64 G)
          clear hcA hcB hfA
          generalize (World.setCell _ _ _) = w9 at hF hbF ⊢
          have hcF := hF.cell
          have hfF := hF.free
          refine bodyPost_ret (v := .tuple #[.agg #[.int .i64 T, .int .i64 G], .int .i64 (sumTo F k : Nat)]) ?_ rfl ?_
          · simp [results, Try.results16, go_sem, hcF, hfF]
          · rw [Hfin.out]
            exact ⟨rfl, hbF⟩
      · rw [decide_eq_false h16] at hvt hen
        have e0 : (E != 0) = true := by rw [bne_iff_ne]; exact fun e => by rw [e] at hen; simp at hen
        have hst := Hstep.out
        rw [hvt] at hst
        rw [if_neg (by simp)] at hst
        have hfin : readBytes L = ((T, G), sumTo F k) := Hrd.out.trans hst
        have Hfin := Lib.hid hfin
        clear hfin hst hvt hen h16 hr7 hX7
        have hcA := hA7.cell
        have hcB := hB7.cell
        have hfA := hA7.free
        have hlA := hA7.lt
        have hlB := hB7.lt
        go_wp2_with fail
        have hF := (hA7.put 0 (.int .i64 T)).put 1 (.int .i64 G)
        have hbF := (hb7.setCell (p := ⟨w.heap.size, 0, none⟩) (Nat.le_refl _) (.int .i64 T)).setCell (p := ⟨w.heap.size, 1, none⟩) (Nat.le_refl _) (.int .i64 G)
        clear hcA hcB hfA
        generalize (World.setCell _ _ _) = w9 at hF hbF ⊢
        have hcF := hF.cell
        have hfF := hF.free
        refine bodyPost_ret (v := .tuple #[.agg #[.int .i64 T, .int .i64 G], .int .i64 (sumTo F k : Nat)]) ?_ rfl ?_
        · simp [results, Try.results16, go_sem, hcF, hfF]
        · rw [Hfin.out]
          exact ⟨rfl, hbF⟩
    · obtain rfl : k = F.length := by omega
      have hd : decide (F.length < F.length) = false := by simp
      obtain ⟨k, hk2⟩ : ∃ k, F.length = k := ⟨_, rfl⟩
      have hfin : readBytes L = ((T, G), sumTo F k) := by rw [hrd, List.drop_of_length_le (Nat.le_refl _), hk2]; rfl
      have Hfin := Lib.hid hfin
      rw [hk2] at hd ⊢
      have Hk2 := Lib.hid hk2
      clear hrd hfin hrow hk2
      have hcA := hAr.cell
      have hcB := hBr.cell
      have hfA := hAr.free
      have hlA := hAr.lt
      have hlB := hBr.lt
      go_wp2_with fail
      have hF := (hAr.put 0 (.int .i64 T)).put 1 (.int .i64 G)
      have hbF := (hb.setCell (p := ⟨w.heap.size, 0, none⟩) (Nat.le_refl _) (.int .i64 T)).setCell (p := ⟨w.heap.size, 1, none⟩) (Nat.le_refl _) (.int .i64 G)
      clear hcA hcB hfA
      generalize (World.setCell _ _ _) = w9 at hF hbF ⊢
      have hcF := hF.cell
      have hfF := hF.free
      refine bodyPost_ret (v := .tuple #[.agg #[.int .i64 T, .int .i64 G], .int .i64 (sumTo F k : Nat)]) ?_ rfl ?_
      · simp [results, Try.results16, go_sem, hcF, hfF]
      · rw [Hfin.out]
        exact ⟨rfl, hbF⟩
end Go.Proofs.Ytbcbjibbeieaiaa

