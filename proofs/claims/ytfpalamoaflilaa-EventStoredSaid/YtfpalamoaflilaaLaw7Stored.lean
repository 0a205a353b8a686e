/- chapter 7: EventStored, walked (printed by mkstored7.py). -/
import Derived.Test.YtfpalamoaflilaaRefSt
import Derived.Test.YtfpalamoaflilaaEvAlive
namespace Go.Proofs.Ytfpalamoaflilaa
open Go.RowKit
set_option maxHeartbeats 4000000
set_option maxRecDepth 100000
set_option linter.unusedVariables false
attribute [local go_sem] run_store_flt

theorem few_any (id : Int) (ty da : ByteArray) (va : Nat) (s : ByteArray) (v p t : Int) (g : Nat) (T : TypeId) (w : World) (h : BlkIs w g T #[.int .i64 id, .string ty, .string da, .float .f64 va, .string s, .int .i64 v, .int .i64 p, .int .i64 t]) (h1 : ty.size ≤ 9223372036854775807) (h2 : da.size ≤ 9223372036854775807) (h3 : s.size ≤ 9223372036854775807) :
    Calls Try.prog 14 #[.int .i64 1, .slice (some ⟨g, 0, none⟩) 1 1] w fun e w' => e = .returned (.bool (fewS ⟨⟨id, ty, da, va⟩, s, v, p, t⟩)) ∧ Below w.heap.size w w' := by
  unfold fewS
  dsimp only
  have hc1 := h.cell 1; have hc2 := h.cell 2; have hc4 := h.cell 4
  simp at hc1 hc2 hc4
  have hl := h.lt
  have Hb := Lib.hid (Below.refl w.heap.size w)
  clear h
  obtain ⟨V, hV⟩ : ∃ V, (!(decide (100 < s.size) || decide (100 < ty.size) || decide (300 < da.size))) = V := ⟨_, rfl⟩
  rw [hV]
  have HV := Lib.hid hV
  clear hV
  go_enter Try.func14, Try.ntmps14
  go_wp2_with fail
  go_loopw [5] (fun i wr => ∃ m : Nat, m ≤ 1 ∧ i = .int .i64 m ∧ (m = 1 → V = true) ∧ ∃ q, wr = w.drewN q) (fun i _ => 1 - (intOf i).toNat)
  case atStart => exact ⟨0, Nat.zero_le _, rfl, (fun h => absurd h (by decide)), 0, rfl⟩
  case round =>
    obtain ⟨m, hm, rfl, hall, q, rfl⟩ := hrel
    have Hall := Lib.hid hall
    clear hall
    by_cases hgo : m = 0
    · subst hgo
      have e1 : decide ((0 : Int) < 1) = true := by decide
      by_cases f1 : 100 < s.size
      · have g1 : decide ((100 : Int) < (s.size : Int)) = true := decide_eq_true (by omega)
        obtain rfl : V = false := by rw [← HV.out, decide_eq_true f1]; rfl
        go_wp2_with fail
        go_ret
        exact ⟨rfl, below_drewN Hb.out q⟩
      · have g1 : decide ((100 : Int) < (s.size : Int)) = false := decide_eq_false (by omega)
        by_cases f2 : 100 < ty.size
        · have g2 : decide ((100 : Int) < (ty.size : Int)) = true := decide_eq_true (by omega)
          obtain rfl : V = false := by rw [← HV.out, decide_eq_true f2]; simp
          go_wp2_with fail
          go_ret
          exact ⟨rfl, below_drewN Hb.out q⟩
        · have g2 : decide ((100 : Int) < (ty.size : Int)) = false := decide_eq_false (by omega)
          by_cases f3 : 300 < da.size
          · have g3 : decide ((300 : Int) < (da.size : Int)) = true := decide_eq_true (by omega)
            obtain rfl : V = false := by rw [← HV.out, decide_eq_true f3]; simp
            go_wp2_with fail
            go_ret
            exact ⟨rfl, below_drewN Hb.out q⟩
          · have g3 : decide ((300 : Int) < (da.size : Int)) = false := decide_eq_false (by omega)
            have hv : V = true := by rw [← HV.out, decide_eq_false f1, decide_eq_false f2, decide_eq_false f3]; rfl
            have Hv := Lib.hid hv
            clear hv
            go_wp2_with fail
            go_roundw
            case rel => exact ⟨1, Nat.le_refl _, rfl, fun _ => Hv.out, q, rfl⟩
            case measure => simp [intOf]
    · obtain rfl : m = 1 := by omega
      obtain rfl := Hall.out rfl
      go_wp2_with fail
      go_ret
      exact ⟨rfl, below_drewN Hb.out q⟩

theorem eventStored_any (x : St) (b : ByteArray) (w : World) (hf : x.fits) (hbl : b.size ≤ 9223372036854775807) :
    Calls Try.prog 5 #[stA x, .string b] w fun e w' => e = .returned (.bool true) ∧ Below w.heap.size w w' := by
  obtain ⟨V, hV⟩ : ∃ V, w.alloc (.cells #[.int .i64 x.ev.id, .string x.ev.ty, .string x.ev.da, .float .f64 x.ev.va, .string x.s, .int .i64 x.v, .int .i64 x.p, .int .i64 x.t] 38) = V := ⟨_, rfl⟩
  have hA : BlkIs V w.heap.size 38 #[.int .i64 x.ev.id, .string x.ev.ty, .string x.ev.da, .float .f64 x.ev.va, .string x.s, .int .i64 x.v, .int .i64 x.p, .int .i64 x.t] := by rw [← hV]; exact BlkIs.new _ _ _
  have hb0 : Below w.heap.size w V := by rw [← hV]; exact (Below.refl _ _).alloc (Nat.le_refl _) _
  obtain ⟨V1, hV1⟩ : ∃ V1, V.alloc (.cells #[.int .i64 x.ev.id, .string x.ev.ty, .string x.ev.da, .float .f64 x.ev.va, .string x.s, .int .i64 x.v, .int .i64 x.p, .int .i64 x.t] 38) = V1 := ⟨_, rfl⟩
  have hA1 : BlkIs V1 V.heap.size 38 #[.int .i64 x.ev.id, .string x.ev.ty, .string x.ev.da, .float .f64 x.ev.va, .string x.s, .int .i64 x.v, .int .i64 x.p, .int .i64 x.t] := by rw [← hV1]; exact BlkIs.new _ _ _
  have hb1 : Below V.heap.size V V1 := by rw [← hV1]; exact (Below.refl _ _).alloc (Nat.le_refl _) _
  have hS0 : ∀ wx, Below V.heap.size V wx → wx.cell? ⟨w.heap.size, 0, none⟩ = some (.int .i64 x.ev.id) ∧ wx.cell? ⟨w.heap.size, 1, none⟩ = some (.string x.ev.ty) ∧ wx.cell? ⟨w.heap.size, 2, none⟩ = some (.string x.ev.da) ∧ wx.cell? ⟨w.heap.size, 3, none⟩ = some (.float .f64 x.ev.va) ∧ wx.cell? ⟨w.heap.size, 4, none⟩ = some (.string x.s) ∧ wx.cell? ⟨w.heap.size, 5, none⟩ = some (.int .i64 x.v) ∧ wx.cell? ⟨w.heap.size, 6, none⟩ = some (.int .i64 x.p) ∧ wx.cell? ⟨w.heap.size, 7, none⟩ = some (.int .i64 x.t) := fun wx h => by
    have f1 := (hA.below h hA.lt).cell
    exact ⟨f1 0, f1 1, f1 2, f1 3, f1 4, f1 5, f1 6, f1 7⟩
  have hfew := few_any x.ev.id x.ev.ty x.ev.da x.ev.va x.s x.v x.p x.t V.heap.size _ V1 hA1 hf.ev.t1 hf.ev.d1 hf.s1
  have hxx : (⟨⟨x.ev.id, x.ev.ty, x.ev.da, x.ev.va⟩, x.s, x.v, x.p, x.t⟩ : St) = x := rfl
  rw [hxx] at hfew
  have hput := fun w => putStored_any x w hf
  have hrput := fun w => refPutStored_any x w hf
  have hget := fun (w : World) (h : b.size ≤ 100000) => getStored_any b w h
  have hrget := fun (w : World) (h : b.size ≤ 100000) => refGetStored_any b w h
  have hback : (putS x).2 = 0 → getS (putS x).1 = (x.can, 0) := fun h => getS_put x h hf
  have hpl : (putS x).2 = 0 → (putS x).1.length ≤ 400 := fun h => by rw [(putS_ok h).2]; exact stL_length (putS_ok h).1
  have hcan := sameS_can x
  have hsame := fun (w : World) => refSameStored_any x.can x w
  generalize x.can = z at hback hcan hsame
  generalize putS x = p at hput hrput hback hpl
  have hself := fun (y : St) (w : World) => refSameStored_any y y w
  simp only [sameS_refl] at hself
  generalize getS b.data.toList = y at hget hrget
  unfold stA at hput hrput hget hrget hsame hself ⊢
  have HB := Below.refl V.heap.size V
  obtain ⟨c00, c01, c02, c03, c04, c05, c06, c07⟩ := hS0 _ HB
  have HS := Lib.hid hS0; have Hb0 := Lib.hid hb0; have Hb1 := Lib.hid hb1; have Hfew := Lib.hid hfew; have Hput := Lib.hid hput; have Hrput := Lib.hid hrput; have Hget := Lib.hid hget; have Hrget := Lib.hid hrget; have Hback := Lib.hid hback; have Hpl := Lib.hid hpl; have Hsame := Lib.hid (fun (w : World) => by have := hsame w; rw [hcan] at this; exact this); have Hself := Lib.hid hself
  clear hA hA1 hb0 hb1 hS0 hfew hxx hput hrput hget hrget hback hpl hcan hsame hself hf
  cases hq : fewS x with
  | false =>
    rw [hq] at Hfew
    clear hq
    go_enter Try.func5, Try.ntmps5
    go_wp2_with fail
    (try rw [hV])
    (try rw [hV1])
    refine Hfew.out.mono ?_
    rintro e wx ⟨rfl, hb⟩
    replace HB := Hb1.out.trans (hb.mono Hb1.out.size)
    clear hb c00 c01 c02 c03 c04 c05 c06 c07
    go_wp2_with fail
    refine (alive7_any _).mono ?_
    rintro e wx ⟨rfl, hb⟩
    replace HB := HB.trans (hb.mono HB.size)
    clear hb
    go_wp2_with fail
    go_ret
    exact ⟨rfl, Hb0.out.trans (HB.mono Hb0.out.size)⟩
  | true =>
    rw [hq] at Hfew
    clear hq
    by_cases hb1000 : 1000 < b.size
    · have g1 : decide ((1000 : Int) < (b.size : Int)) = true := decide_eq_true (by omega)
      clear hb1000
      go_enter Try.func5, Try.ntmps5
      go_wp2_with fail
      (try rw [hV])
      (try rw [hV1])
      refine Hfew.out.mono ?_
      rintro e wx ⟨rfl, hb⟩
      replace HB := Hb1.out.trans (hb.mono Hb1.out.size)
      clear hb c00 c01 c02 c03 c04 c05 c06 c07
      go_wp2_with fail
      refine (alive7_any _).mono ?_
      rintro e wx ⟨rfl, hb⟩
      replace HB := HB.trans (hb.mono HB.size)
      clear hb
      go_wp2_with fail
      go_ret
      exact ⟨rfl, Hb0.out.trans (HB.mono Hb0.out.size)⟩
    · have g1 : decide ((1000 : Int) < (b.size : Int)) = false := decide_eq_false (by omega)
      have hb5 : b.size ≤ 100000 := by omega
      have Hget := Lib.hid (fun w => Hget.out w hb5); have Hrget := Lib.hid (fun w => Hrget.out w hb5)
      clear hb1000 hb5
      obtain ⟨S, hS⟩ : ∃ S : ByteArray, (⟨p.1.toArray⟩ : ByteArray) = S := ⟨_, rfl⟩
      rw [hS] at Hput Hrput
      have HS' := Lib.hid hS
      clear hS
      by_cases hp0 : p.2 = 0
      · have hp1 : (p.2 != 0) = false := by simpa using hp0
        have hb := Hback.out hp0
        have hl := Hpl.out hp0
        have hG := fun w => getStored_any S w (by rw [← HS'.out, size_mk]; exact Nat.le_trans hl (by omega))
        rw [show S.data.toList = p.1 from by rw [← HS'.out], hb] at hG
        unfold stA at hG
        have HG := Lib.hid hG
        clear hb hl hG hp0
        go_enter Try.func5, Try.ntmps5
        go_wp2_with fail
        (try rw [hV])
        (try rw [hV1])
        refine Hfew.out.mono ?_
        rintro e wx ⟨rfl, hb⟩
        replace HB := Hb1.out.trans (hb.mono Hb1.out.size)
        clear hb c00 c01 c02 c03 c04 c05 c06 c07
        obtain ⟨c00, c01, c02, c03, c04, c05, c06, c07⟩ := HS.out _ HB
        go_wp2_with fail
        refine (Hput.out _).mono ?_
        rintro e wx ⟨rfl, hb⟩
        replace HB := HB.trans (hb.mono HB.size)
        clear hb c00 c01 c02 c03 c04 c05 c06 c07
        obtain ⟨c00, c01, c02, c03, c04, c05, c06, c07⟩ := HS.out _ HB
        go_wp2_with fail
        refine (Hrput.out _).mono ?_
        rintro e wx ⟨rfl, hb⟩
        replace HB := HB.trans (hb.mono HB.size)
        clear hb c00 c01 c02 c03 c04 c05 c06 c07
        obtain ⟨c00, c01, c02, c03, c04, c05, c06, c07⟩ := HS.out _ HB
        go_wp2_with fail
        refine (Hget.out _).mono ?_
        rintro e w3 ⟨rfl, hb⟩
        replace HB := HB.trans (hb.mono HB.size)
        clear hb c00 c01 c02 c03 c04 c05 c06 c07
        go_wp2_with fail
        obtain ⟨w4, hw4⟩ : ∃ V, w3.alloc (.cells #[.int .i64 y.1.ev.id, .string y.1.ev.ty, .string y.1.ev.da, .float .f64 y.1.ev.va, .string y.1.s, .int .i64 y.1.v, .int .i64 y.1.p, .int .i64 y.1.t] 38) = V := ⟨_, rfl⟩
        have hD4 : BlkIs w4 w3.heap.size 38 #[.int .i64 y.1.ev.id, .string y.1.ev.ty, .string y.1.ev.da, .float .f64 y.1.ev.va, .string y.1.s, .int .i64 y.1.v, .int .i64 y.1.p, .int .i64 y.1.t] := by rw [← hw4]; exact BlkIs.new _ _ _
        have hbD : Below w3.heap.size w3 w4 := by rw [← hw4]; exact (Below.refl _ _).alloc (Nat.le_refl _) _
        replace HB := HB.trans (hbD.mono HB.size)
        rw [hw4]
        clear hw4 hbD
        refine (Hrget.out _).mono ?_
        rintro e w5 ⟨rfl, hb⟩
        replace HB := HB.trans (hb.mono HB.size)
        have hD5 := hD4.below hb hD4.lt
        clear hb hD4
        obtain ⟨w6, hw6⟩ : ∃ V, w5.alloc (.cells #[.int .i64 y.1.ev.id, .string y.1.ev.ty, .string y.1.ev.da, .float .f64 y.1.ev.va, .string y.1.s, .int .i64 y.1.v, .int .i64 y.1.p, .int .i64 y.1.t] 38) = V := ⟨_, rfl⟩
        have hE6 : BlkIs w6 w5.heap.size 38 #[.int .i64 y.1.ev.id, .string y.1.ev.ty, .string y.1.ev.da, .float .f64 y.1.ev.va, .string y.1.s, .int .i64 y.1.v, .int .i64 y.1.p, .int .i64 y.1.t] := by rw [← hw6]; exact BlkIs.new _ _ _
        have hbD : Below w5.heap.size w5 w6 := by rw [← hw6]; exact (Below.refl _ _).alloc (Nat.le_refl _) _
        replace HB := HB.trans (hbD.mono HB.size)
        have hD6 := hD5.below hbD hD5.lt
        have hcD := hD6.cell; have hcE := hE6.cell
        have n1 : (S.toList != S.toList) = false := by simp
        go_wp2_with fail
        (try rw [hw6])
        refine (Hself.out y.1 _).mono ?_
        rintro e w7 ⟨rfl, hb⟩
        replace HB := HB.trans (hb.mono HB.size)
        clear hb hw6 hbD hD5 hD6 hE6 hcD hcE
        obtain ⟨c00, c01, c02, c03, c04, c05, c06, c07⟩ := HS.out _ HB
        go_wp2_with fail
        refine (HG.out _).mono ?_
        rintro e w8 ⟨rfl, hb⟩
        replace HB := HB.trans (hb.mono HB.size)
        clear hb c00 c01 c02 c03 c04 c05 c06 c07
        go_wp2_with fail
        obtain ⟨w9, hw9⟩ : ∃ V, w8.alloc (.cells #[.int .i64 z.ev.id, .string z.ev.ty, .string z.ev.da, .float .f64 z.ev.va, .string z.s, .int .i64 z.v, .int .i64 z.p, .int .i64 z.t] 38) = V := ⟨_, rfl⟩
        have hF : BlkIs w9 w8.heap.size 38 #[.int .i64 z.ev.id, .string z.ev.ty, .string z.ev.da, .float .f64 z.ev.va, .string z.s, .int .i64 z.v, .int .i64 z.p, .int .i64 z.t] := by rw [← hw9]; exact BlkIs.new _ _ _
        have hbF : Below w8.heap.size w8 w9 := by rw [← hw9]; exact (Below.refl _ _).alloc (Nat.le_refl _) _
        replace HB := HB.trans (hbF.mono HB.size)
        rw [hw9]
        clear hbF hw9
        refine (alive7_any _).mono ?_
        rintro e w10 ⟨rfl, hb⟩
        replace HB := HB.trans (hb.mono HB.size)
        have hF2 := hF.below hb hF.lt
        have hcF := hF2.cell
        obtain ⟨c00, c01, c02, c03, c04, c05, c06, c07⟩ := HS.out _ HB
        clear hb
        go_wp2_with fail
        refine (Hsame.out _).mono ?_
        rintro e w11 ⟨rfl, hb⟩
        replace HB := HB.trans (hb.mono HB.size)
        clear hb
        go_wp2_with fail
        go_ret
        exact ⟨rfl, Hb0.out.trans (HB.mono Hb0.out.size)⟩
      · have hp1 : (p.2 != 0) = true := by simpa using hp0
        clear hp0
        go_enter Try.func5, Try.ntmps5
        go_wp2_with fail
        (try rw [hV])
        (try rw [hV1])
        refine Hfew.out.mono ?_
        rintro e wx ⟨rfl, hb⟩
        replace HB := Hb1.out.trans (hb.mono Hb1.out.size)
        clear hb c00 c01 c02 c03 c04 c05 c06 c07
        obtain ⟨c00, c01, c02, c03, c04, c05, c06, c07⟩ := HS.out _ HB
        go_wp2_with fail
        refine (Hput.out _).mono ?_
        rintro e wx ⟨rfl, hb⟩
        replace HB := HB.trans (hb.mono HB.size)
        clear hb c00 c01 c02 c03 c04 c05 c06 c07
        obtain ⟨c00, c01, c02, c03, c04, c05, c06, c07⟩ := HS.out _ HB
        go_wp2_with fail
        refine (Hrput.out _).mono ?_
        rintro e wx ⟨rfl, hb⟩
        replace HB := HB.trans (hb.mono HB.size)
        clear hb c00 c01 c02 c03 c04 c05 c06 c07
        obtain ⟨c00, c01, c02, c03, c04, c05, c06, c07⟩ := HS.out _ HB
        go_wp2_with fail
        refine (Hget.out _).mono ?_
        rintro e w3 ⟨rfl, hb⟩
        replace HB := HB.trans (hb.mono HB.size)
        clear hb c00 c01 c02 c03 c04 c05 c06 c07
        go_wp2_with fail
        obtain ⟨w4, hw4⟩ : ∃ V, w3.alloc (.cells #[.int .i64 y.1.ev.id, .string y.1.ev.ty, .string y.1.ev.da, .float .f64 y.1.ev.va, .string y.1.s, .int .i64 y.1.v, .int .i64 y.1.p, .int .i64 y.1.t] 38) = V := ⟨_, rfl⟩
        have hD4 : BlkIs w4 w3.heap.size 38 #[.int .i64 y.1.ev.id, .string y.1.ev.ty, .string y.1.ev.da, .float .f64 y.1.ev.va, .string y.1.s, .int .i64 y.1.v, .int .i64 y.1.p, .int .i64 y.1.t] := by rw [← hw4]; exact BlkIs.new _ _ _
        have hbD : Below w3.heap.size w3 w4 := by rw [← hw4]; exact (Below.refl _ _).alloc (Nat.le_refl _) _
        replace HB := HB.trans (hbD.mono HB.size)
        rw [hw4]
        clear hw4 hbD
        refine (Hrget.out _).mono ?_
        rintro e w5 ⟨rfl, hb⟩
        replace HB := HB.trans (hb.mono HB.size)
        have hD5 := hD4.below hb hD4.lt
        clear hb hD4
        obtain ⟨w6, hw6⟩ : ∃ V, w5.alloc (.cells #[.int .i64 y.1.ev.id, .string y.1.ev.ty, .string y.1.ev.da, .float .f64 y.1.ev.va, .string y.1.s, .int .i64 y.1.v, .int .i64 y.1.p, .int .i64 y.1.t] 38) = V := ⟨_, rfl⟩
        have hE6 : BlkIs w6 w5.heap.size 38 #[.int .i64 y.1.ev.id, .string y.1.ev.ty, .string y.1.ev.da, .float .f64 y.1.ev.va, .string y.1.s, .int .i64 y.1.v, .int .i64 y.1.p, .int .i64 y.1.t] := by rw [← hw6]; exact BlkIs.new _ _ _
        have hbD : Below w5.heap.size w5 w6 := by rw [← hw6]; exact (Below.refl _ _).alloc (Nat.le_refl _) _
        replace HB := HB.trans (hbD.mono HB.size)
        have hD6 := hD5.below hbD hD5.lt
        have hcD := hD6.cell; have hcE := hE6.cell
        have n1 : (S.toList != S.toList) = false := by simp
        go_wp2_with fail
        (try rw [hw6])
        refine (Hself.out y.1 _).mono ?_
        rintro e w7 ⟨rfl, hb⟩
        replace HB := HB.trans (hb.mono HB.size)
        clear hb hw6 hbD hD5 hD6 hE6 hcD hcE
        obtain ⟨c00, c01, c02, c03, c04, c05, c06, c07⟩ := HS.out _ HB
        go_wp2_with fail
        refine (alive7_any _).mono ?_
        rintro e wx ⟨rfl, hb⟩
        replace HB := HB.trans (hb.mono HB.size)
        clear hb
        go_wp2_with fail
        go_ret
        exact ⟨rfl, Hb0.out.trans (HB.mono Hb0.out.size)⟩
end Go.Proofs.Ytfpalamoaflilaa
