/- chapter 7: EventParts, walked. -/
import Derived.Test.YtfpalamoaflilaaEvAlive
import Derived.Deep.RegionHeld3
namespace Go.Proofs.Ytfpalamoaflilaa
open Go.RowKit
set_option maxHeartbeats 8000000
set_option maxRecDepth 100000
set_option linter.unusedVariables false
attribute [local go_sem] run_store_flt

theorem parts_1_in (t : Int) (s : ByteArray) (x : Int) (A : Option Addr) (n cap : Nat) (es : List Ev) (m0 m1 m2 time : Int) (w : World) (hr : SlR w w.heap.size 4 A n (evVs es)) (hn : n ≤ 9223372036854775807) (hf : (⟨1, t, s, x, es, m0, m1, m2⟩ : Cmd).fits) (hsm : smallC s es = true) (hc0 : checkC ⟨1, t, s, x, es, m0, m1, m2⟩ = 0) (ht0 : 0 ≤ time) (ht1 : time ≤ 1099511627776) :
    Calls Try.prog 3 #[.agg #[.int .i64 1, .int .i64 t, .string s, .int .i64 x, .slice A n cap, .int .i64 m0, .int .i64 m1, .int .i64 m2], .int .i64 time] w fun e w' => e = .returned (.bool true) ∧ Below w.heap.size w w' := by
  obtain ⟨hn12, hs100, hev⟩ := smallC_few hsm
  have hl : es.length = n := by have := hr.len; rw [evVs_length] at this; omega
  have p1 := parts_time hc0 time; have p2 := parts_meta hc0; have p3 := parts_events hc0; have p4 := parts_kind ⟨1, t, s, x, es, m0, m1, m2⟩
  dsimp only at p1 p2 p3 p4
  rw [if_pos (by omega)] at p1
  rw [if_neg (by decide)] at p2
  rw [if_pos rfl] at p3
  obtain ⟨W0, hW0⟩ : ∃ W, w.alloc (.cells #[.int .i64 1, .int .i64 t, .string s, .int .i64 x, .slice A n cap, .int .i64 m0, .int .i64 m1, .int .i64 m2] 26) = W := ⟨_, rfl⟩
  have hM : BlkIs W0 w.heap.size 26 #[.int .i64 1, .int .i64 t, .string s, .int .i64 x, .slice A n cap, .int .i64 m0, .int .i64 m1, .int .i64 m2] := by rw [← hW0]; exact BlkIs.new _ _ _
  have hb0 : Below w.heap.size w W0 := by rw [← hW0]; exact (Below.refl _ _).alloc (Nat.le_refl _) _
  have hr0 := hr.below hb0
  have ksm := fun (w1 : World) (h : Below W0.heap.size W0 w1) => small_any 1 t s x A n cap w.heap.size es m0 m1 m2 w1 (hr0.below (h.mono hb0.size)) (Nat.le_trans hb0.size h.size) hn hf.es hf.s1
  rw [hsm] at ksm
  have kck := fun (w1 : World) (h : Below W0.heap.size W0 w1) => check_any 1 t s x A n cap w.heap.size es m0 m1 m2 w1 (hr0.below (h.mono hb0.size)) (Nat.le_trans hb0.size h.size) (by omega) hf.es hf.s1
  rw [hc0] at kck
  have k1 := fun (w1 : World) (h : Below W0.heap.size W0 w1) => check_any 1 time s x A n cap w.heap.size es m0 m1 m2 w1 (hr0.below (h.mono hb0.size)) (Nat.le_trans hb0.size h.size) (by omega) hf.es hf.s1
  rw [p1] at k1
  have k2 := fun (w1 : World) (h : Below W0.heap.size W0 w1) => check_any 1 t s x A n cap w.heap.size es m0 m1 1 w1 (hr0.below (h.mono hb0.size)) (Nat.le_trans hb0.size h.size) (by omega) hf.es hf.s1
  rw [p2] at k2
  have k3 := fun (D : Option Addr) (B : Nat) (w1 : World) (h : SlR w1 B 4 D 1 (evVs [evT])) (hB : B ≤ w1.heap.size) => check_any 1 t s x D 1 1 B [evT] m0 m1 m2 w1 h hB (by omega) (fun e he => by simp at he; subst he; exact ⟨by decide, by decide, by decide, by decide, by decide⟩) hf.s1
  rw [p3] at k3
  have k4 := fun (w1 : World) (h : Below W0.heap.size W0 w1) => check_any 9 t s x A n cap w.heap.size es m0 m1 m2 w1 (hr0.below (h.mono hb0.size)) (Nat.le_trans hb0.size h.size) (by omega) hf.es hf.s1
  rw [p4] at k4
  have hcM := hM.cell; have hlM := hM.lt
  have HM := Lib.hid hM; have Hb0 := Lib.hid hb0; have Ksm := Lib.hid ksm; have Kck := Lib.hid kck; have K1 := Lib.hid k1; have K2 := Lib.hid k2; have K3 := Lib.hid k3; have K4 := Lib.hid k4
  clear hM hb0 ksm kck k1 k2 k3 k4 p1 p2 p3 p4 hr hr0 hf hsm hc0 hev hl
  go_enter Try.func3, Try.ntmps3
  go_wp2_with fail
  (try rw [hW0])
  refine (Ksm.out _ (Below.refl _ _)).mono ?_
  rintro y w1 ⟨rfl, hb1⟩
  have hcM1 := (HM.out.below hb1 HM.out.lt).cell
  have Hb1 := Lib.hid hb1; clear hb1 hcM
  go_wp2_with fail
  refine (Kck.out _ Hb1.out).mono ?_
  rintro y w2 ⟨rfl, hb2⟩
  have hb02 := Hb1.out.trans (hb2.mono Hb1.out.size)
  have hM2 := HM.out.below hb02 HM.out.lt
  have hcM2 := hM2.cell
  have hlM2 := hM2.lt
  have Hb2 := Lib.hid hb02; have HM2 := Lib.hid hM2
  clear hb2 hb02 hcM1 hM2
  obtain ⟨W4, hW4⟩ : ∃ W, (((w2.alloc (.cells #[.int .i64 1, .int .i64 time, .string s, .int .i64 x, .slice A n cap, .int .i64 m0, .int .i64 m1, .int .i64 m2] 26)).alloc (.cells #[.int .i64 1, .int .i64 t, .string s, .int .i64 x, .slice A n cap, .int .i64 m0, .int .i64 m1, .int .i64 1] 26)).alloc (.cells #[.int .i64 1, .int .i64 t, .string s, .int .i64 x, .slice (some ⟨w2.heap.size + 1 + 1 + 1, 0, none⟩) 1 1, .int .i64 m0, .int .i64 m1, .int .i64 m2] 26)).alloc (.cells #[.int .i64 1, .string ⟨#[116]⟩, .string ⟨#[]⟩, .float .f64 0] 33) = W := ⟨_, rfl⟩
  have sz1 : (w2.alloc (.cells #[.int .i64 1, .int .i64 time, .string s, .int .i64 x, .slice A n cap, .int .i64 m0, .int .i64 m1, .int .i64 m2] 26)).heap.size = w2.heap.size + 1 := by simp
  have sz2 : ((w2.alloc (.cells #[.int .i64 1, .int .i64 time, .string s, .int .i64 x, .slice A n cap, .int .i64 m0, .int .i64 m1, .int .i64 m2] 26)).alloc (.cells #[.int .i64 1, .int .i64 t, .string s, .int .i64 x, .slice A n cap, .int .i64 m0, .int .i64 m1, .int .i64 1] 26)).heap.size = w2.heap.size + 1 + 1 := by simp
  have sz3 : (((w2.alloc (.cells #[.int .i64 1, .int .i64 time, .string s, .int .i64 x, .slice A n cap, .int .i64 m0, .int .i64 m1, .int .i64 m2] 26)).alloc (.cells #[.int .i64 1, .int .i64 t, .string s, .int .i64 x, .slice A n cap, .int .i64 m0, .int .i64 m1, .int .i64 1] 26)).alloc (.cells #[.int .i64 1, .int .i64 t, .string s, .int .i64 x, .slice (some ⟨w2.heap.size + 1 + 1 + 1, 0, none⟩) 1 1, .int .i64 m0, .int .i64 m1, .int .i64 m2] 26)).heap.size = w2.heap.size + 1 + 1 + 1 := by simp
  have hD : BlkIs W4 w2.heap.size 26 #[.int .i64 1, .int .i64 time, .string s, .int .i64 x, .slice A n cap, .int .i64 m0, .int .i64 m1, .int .i64 m2] := by rw [← hW4]; exact (((BlkIs.new _ _ _).alloc _).alloc _).alloc _
  have hE : BlkIs W4 (w2.heap.size + 1) 26 #[.int .i64 1, .int .i64 t, .string s, .int .i64 x, .slice A n cap, .int .i64 m0, .int .i64 m1, .int .i64 1] := by
    rw [← hW4]
    have := BlkIs.new (w2.alloc (.cells #[.int .i64 1, .int .i64 time, .string s, .int .i64 x, .slice A n cap, .int .i64 m0, .int .i64 m1, .int .i64 m2] 26)) 26 #[.int .i64 1, .int .i64 t, .string s, .int .i64 x, .slice A n cap, .int .i64 m0, .int .i64 m1, .int .i64 1]
    rw [sz1] at this
    exact (this.alloc _).alloc _
  have hF : BlkIs W4 (w2.heap.size + 1 + 1) 26 #[.int .i64 1, .int .i64 t, .string s, .int .i64 x, .slice (some ⟨w2.heap.size + 1 + 1 + 1, 0, none⟩) 1 1, .int .i64 m0, .int .i64 m1, .int .i64 m2] := by
    rw [← hW4]
    have := BlkIs.new ((w2.alloc (.cells #[.int .i64 1, .int .i64 time, .string s, .int .i64 x, .slice A n cap, .int .i64 m0, .int .i64 m1, .int .i64 m2] 26)).alloc (.cells #[.int .i64 1, .int .i64 t, .string s, .int .i64 x, .slice A n cap, .int .i64 m0, .int .i64 m1, .int .i64 1] 26)) 26 #[.int .i64 1, .int .i64 t, .string s, .int .i64 x, .slice (some ⟨w2.heap.size + 1 + 1 + 1, 0, none⟩) 1 1, .int .i64 m0, .int .i64 m1, .int .i64 m2]
    rw [sz2] at this
    exact this.alloc _
  have hV : SlR W4 W4.heap.size 4 (some ⟨w2.heap.size + 1 + 1 + 1, 0, none⟩) 1 (evVs [evT]) := by
    rw [← hW4]
    have := SlR.new (((w2.alloc (.cells #[.int .i64 1, .int .i64 time, .string s, .int .i64 x, .slice A n cap, .int .i64 m0, .int .i64 m1, .int .i64 m2] 26)).alloc (.cells #[.int .i64 1, .int .i64 t, .string s, .int .i64 x, .slice A n cap, .int .i64 m0, .int .i64 m1, .int .i64 1] 26)).alloc (.cells #[.int .i64 1, .int .i64 t, .string s, .int .i64 x, .slice (some ⟨w2.heap.size + 1 + 1 + 1, 0, none⟩) 1 1, .int .i64 m0, .int .i64 m1, .int .i64 m2] 26)) _ sz3 33 (n := 1) (size := 4) #[.int .i64 1, .string ⟨#[116]⟩, .string ⟨#[]⟩, .float .f64 0] rfl
    exact this.more (by simp)
  have hb4 : Below w2.heap.size w2 W4 := by rw [← hW4]; exact ((((Below.refl _ _).alloc (Nat.le_refl _) _).alloc (by simp) _).alloc (by simp; omega) _).alloc (by simp; omega) _
  have hM4 := HM2.out.below hb4 hlM2
  have hcM4 := hM4.cell
  have hlM4 := hM4.lt
  clear sz1 sz2 sz3
  obtain ⟨W5, hW5⟩ : ∃ W, W4.alloc (.cells #[.int .i64 9, .int .i64 t, .string s, .int .i64 x, .slice A n cap, .int .i64 m0, .int .i64 m1, .int .i64 m2] 26) = W := ⟨_, rfl⟩
  have hb5 : Below W4.heap.size W4 W5 := by rw [← hW5]; exact (Below.refl _ _).alloc (Nat.le_refl _) _
  have hG : BlkIs W5 W4.heap.size 26 #[.int .i64 9, .int .i64 t, .string s, .int .i64 x, .slice A n cap, .int .i64 m0, .int .i64 m1, .int .i64 m2] := by rw [← hW5]; exact BlkIs.new _ _ _
  have hD5 := hD.below hb5 hD.lt; have hE5 := hE.below hb5 hE.lt; have hF5 := hF.below hb5 hF.lt; have hM5 := hM4.below hb5 hM4.lt; have hV5 := hV.below hb5
  have hB5 : Below w2.heap.size w2 W5 := hb4.trans (hb5.mono hb4.size)
  have h45 : W4.heap.size ≤ W5.heap.size := hb5.size
  have hS0 : ∀ wx, Below W5.heap.size W5 wx → (∀ i, wx.cell? ⟨w.heap.size, i, none⟩ = (#[.int .i64 1, .int .i64 t, .string s, .int .i64 x, .slice A n cap, .int .i64 m0, .int .i64 m1, .int .i64 m2] : Array Value)[i]?) ∧ (∀ i, wx.cell? ⟨w2.heap.size, i, none⟩ = (#[.int .i64 1, .int .i64 time, .string s, .int .i64 x, .slice A n cap, .int .i64 m0, .int .i64 m1, .int .i64 m2] : Array Value)[i]?) ∧ (∀ i, wx.cell? ⟨w2.heap.size + 1, i, none⟩ = (#[.int .i64 1, .int .i64 t, .string s, .int .i64 x, .slice A n cap, .int .i64 m0, .int .i64 m1, .int .i64 1] : Array Value)[i]?) ∧ (∀ i, wx.cell? ⟨w2.heap.size + 1 + 1, i, none⟩ = (#[.int .i64 1, .int .i64 t, .string s, .int .i64 x, .slice (some ⟨w2.heap.size + 1 + 1 + 1, 0, none⟩) 1 1, .int .i64 m0, .int .i64 m1, .int .i64 m2] : Array Value)[i]?) ∧ (∀ i, wx.cell? ⟨W4.heap.size, i, none⟩ = (#[.int .i64 9, .int .i64 t, .string s, .int .i64 x, .slice A n cap, .int .i64 m0, .int .i64 m1, .int .i64 m2] : Array Value)[i]?) := fun wx h => ⟨(hM5.below h hM5.lt).cell, (hD5.below h hD5.lt).cell, (hE5.below h hE5.lt).cell, (hF5.below h hF5.lt).cell, (hG.below h hG.lt).cell⟩
  have hZ0 : ∀ wx, Below W5.heap.size W5 wx → Below W0.heap.size W0 wx ∧ SlR wx W4.heap.size 4 (some ⟨w2.heap.size + 1 + 1 + 1, 0, none⟩) 1 (evVs [evT]) ∧ W4.heap.size ≤ wx.heap.size := fun wx h =>
    ⟨Hb2.out.trans ((hB5.mono Hb2.out.size).trans (h.mono (Nat.le_trans Hb2.out.size hB5.size))), hV5.below (h.mono h45), Nat.le_trans h45 h.size⟩
  have HS := Lib.hid hS0; have HZ := Lib.hid hZ0; have HB5 := Lib.hid hB5
  clear hS0 hZ0 hB5 hD hE hF hV hM4 hb4 hb5 hG hD5 hE5 hF5 hM5 hV5 h45
  have HB : Below W5.heap.size W5 W5 := Below.refl _ _
  have hS := HS.out _ HB
  have tok1 : True := trivial
  have tok2 : True := trivial
  have tok3 : True := trivial
  have tok4 : True := trivial
  go_wp2_with fail
  clear hcM4 hcM2
  go_region_held3 (fun wx => (∀ i, wx.cell? ⟨w.heap.size, i, none⟩ = (#[.int .i64 1, .int .i64 t, .string s, .int .i64 x, .slice A n cap, .int .i64 m0, .int .i64 m1, .int .i64 m2] : Array Value)[i]?) ∧ (∀ i, wx.cell? ⟨w2.heap.size, i, none⟩ = (#[.int .i64 1, .int .i64 time, .string s, .int .i64 x, .slice A n cap, .int .i64 m0, .int .i64 m1, .int .i64 m2] : Array Value)[i]?) ∧ (∀ i, wx.cell? ⟨w2.heap.size + 1, i, none⟩ = (#[.int .i64 1, .int .i64 t, .string s, .int .i64 x, .slice A n cap, .int .i64 m0, .int .i64 m1, .int .i64 1] : Array Value)[i]?) ∧ (∀ i, wx.cell? ⟨w2.heap.size + 1 + 1, i, none⟩ = (#[.int .i64 1, .int .i64 t, .string s, .int .i64 x, .slice (some ⟨w2.heap.size + 1 + 1 + 1, 0, none⟩) 1 1, .int .i64 m0, .int .i64 m1, .int .i64 m2] : Array Value)[i]?) ∧ (∀ i, wx.cell? ⟨W4.heap.size, i, none⟩ = (#[.int .i64 9, .int .i64 t, .string s, .int .i64 x, .slice A n cap, .int .i64 m0, .int .i64 m1, .int .i64 m2] : Array Value)[i]?)) (first | exact hS | go_keep) ((first
    | (go_at_call 11; refine (alive7_any _).mono ?_; rintro e wx ⟨rfl, hb⟩; have HB := HB.trans ((by first | exact hb | exact below_undrew hb : Below _ _ _).mono HB.size); have hS := HS.out _ HB)
    | (go_at_call 12; have _t := tok1; clear tok1 _t; refine (K1.out _ (HZ.out _ HB).1).mono ?_; rintro e wx ⟨rfl, hb⟩; have HB := HB.trans ((by first | exact hb | exact below_undrew hb : Below _ _ _).mono HB.size); have hS := HS.out _ HB)
    | (go_at_call 12; have _t := tok2; clear tok2 _t; refine (K2.out _ (HZ.out _ HB).1).mono ?_; rintro e wx ⟨rfl, hb⟩; have HB := HB.trans ((by first | exact hb | exact below_undrew hb : Below _ _ _).mono HB.size); have hS := HS.out _ HB)
    | (go_at_call 12; have _t := tok3; clear tok3 _t; refine (K3.out _ _ _ (HZ.out _ HB).2.1 (HZ.out _ HB).2.2).mono ?_; rintro e wx ⟨rfl, hb⟩; have HB := HB.trans ((by first | exact hb | exact below_undrew hb : Below _ _ _).mono HB.size); have hS := HS.out _ HB)
    | (go_at_call 12; have _t := tok4; clear tok4 _t; refine (K4.out _ (HZ.out _ HB).1).mono ?_; rintro e wx ⟨rfl, hb⟩; have HB := HB.trans ((by first | exact hb | exact below_undrew hb : Below _ _ _).mono HB.size); have hS := HS.out _ HB)))
  all_goals
    go_wp2_with fail
    go_ret
    have h5 := Hb0.out.trans ((Hb2.out.trans (HB5.out.mono Hb2.out.size)).mono Hb0.out.size)
    exact ⟨rfl, h5.trans ((by first | exact HB | exact below_drewN HB 1 : Below W5.heap.size W5 _).mono h5.size)⟩

theorem parts_1_lo (t : Int) (s : ByteArray) (x : Int) (A : Option Addr) (n cap : Nat) (es : List Ev) (m0 m1 m2 time : Int) (w : World) (hr : SlR w w.heap.size 4 A n (evVs es)) (hn : n ≤ 9223372036854775807) (hf : (⟨1, t, s, x, es, m0, m1, m2⟩ : Cmd).fits) (hsm : smallC s es = true) (hc0 : checkC ⟨1, t, s, x, es, m0, m1, m2⟩ = 0) (ht0 : time < 0) :
    Calls Try.prog 3 #[.agg #[.int .i64 1, .int .i64 t, .string s, .int .i64 x, .slice A n cap, .int .i64 m0, .int .i64 m1, .int .i64 m2], .int .i64 time] w fun e w' => e = .returned (.bool true) ∧ Below w.heap.size w w' := by
  obtain ⟨hn12, hs100, hev⟩ := smallC_few hsm
  have hl : es.length = n := by have := hr.len; rw [evVs_length] at this; omega
  have p1 := parts_time hc0 time; have p2 := parts_meta hc0; have p3 := parts_events hc0; have p4 := parts_kind ⟨1, t, s, x, es, m0, m1, m2⟩
  dsimp only at p1 p2 p3 p4
  rw [if_neg (by omega)] at p1
  rw [if_neg (by decide)] at p2
  rw [if_pos rfl] at p3
  obtain ⟨W0, hW0⟩ : ∃ W, w.alloc (.cells #[.int .i64 1, .int .i64 t, .string s, .int .i64 x, .slice A n cap, .int .i64 m0, .int .i64 m1, .int .i64 m2] 26) = W := ⟨_, rfl⟩
  have hM : BlkIs W0 w.heap.size 26 #[.int .i64 1, .int .i64 t, .string s, .int .i64 x, .slice A n cap, .int .i64 m0, .int .i64 m1, .int .i64 m2] := by rw [← hW0]; exact BlkIs.new _ _ _
  have hb0 : Below w.heap.size w W0 := by rw [← hW0]; exact (Below.refl _ _).alloc (Nat.le_refl _) _
  have hr0 := hr.below hb0
  have ksm := fun (w1 : World) (h : Below W0.heap.size W0 w1) => small_any 1 t s x A n cap w.heap.size es m0 m1 m2 w1 (hr0.below (h.mono hb0.size)) (Nat.le_trans hb0.size h.size) hn hf.es hf.s1
  rw [hsm] at ksm
  have kck := fun (w1 : World) (h : Below W0.heap.size W0 w1) => check_any 1 t s x A n cap w.heap.size es m0 m1 m2 w1 (hr0.below (h.mono hb0.size)) (Nat.le_trans hb0.size h.size) (by omega) hf.es hf.s1
  rw [hc0] at kck
  have k1 := fun (w1 : World) (h : Below W0.heap.size W0 w1) => check_any 1 time s x A n cap w.heap.size es m0 m1 m2 w1 (hr0.below (h.mono hb0.size)) (Nat.le_trans hb0.size h.size) (by omega) hf.es hf.s1
  rw [p1] at k1
  have k2 := fun (w1 : World) (h : Below W0.heap.size W0 w1) => check_any 1 t s x A n cap w.heap.size es m0 m1 1 w1 (hr0.below (h.mono hb0.size)) (Nat.le_trans hb0.size h.size) (by omega) hf.es hf.s1
  rw [p2] at k2
  have k3 := fun (D : Option Addr) (B : Nat) (w1 : World) (h : SlR w1 B 4 D 1 (evVs [evT])) (hB : B ≤ w1.heap.size) => check_any 1 t s x D 1 1 B [evT] m0 m1 m2 w1 h hB (by omega) (fun e he => by simp at he; subst he; exact ⟨by decide, by decide, by decide, by decide, by decide⟩) hf.s1
  rw [p3] at k3
  have k4 := fun (w1 : World) (h : Below W0.heap.size W0 w1) => check_any 9 t s x A n cap w.heap.size es m0 m1 m2 w1 (hr0.below (h.mono hb0.size)) (Nat.le_trans hb0.size h.size) (by omega) hf.es hf.s1
  rw [p4] at k4
  have hcM := hM.cell; have hlM := hM.lt
  have HM := Lib.hid hM; have Hb0 := Lib.hid hb0; have Ksm := Lib.hid ksm; have Kck := Lib.hid kck; have K1 := Lib.hid k1; have K2 := Lib.hid k2; have K3 := Lib.hid k3; have K4 := Lib.hid k4
  clear hM hb0 ksm kck k1 k2 k3 k4 p1 p2 p3 p4 hr hr0 hf hsm hc0 hev hl
  have d0 : decide (0 ≤ time) = false := decide_eq_false (by omega)
  go_enter Try.func3, Try.ntmps3
  go_wp2_with fail
  (try rw [hW0])
  refine (Ksm.out _ (Below.refl _ _)).mono ?_
  rintro y w1 ⟨rfl, hb1⟩
  have hcM1 := (HM.out.below hb1 HM.out.lt).cell
  have Hb1 := Lib.hid hb1; clear hb1 hcM
  go_wp2_with fail
  refine (Kck.out _ Hb1.out).mono ?_
  rintro y w2 ⟨rfl, hb2⟩
  have hb02 := Hb1.out.trans (hb2.mono Hb1.out.size)
  have hM2 := HM.out.below hb02 HM.out.lt
  have hcM2 := hM2.cell
  have hlM2 := hM2.lt
  have Hb2 := Lib.hid hb02; have HM2 := Lib.hid hM2
  clear hb2 hb02 hcM1 hM2
  obtain ⟨W4, hW4⟩ : ∃ W, (((w2.alloc (.cells #[.int .i64 1, .int .i64 time, .string s, .int .i64 x, .slice A n cap, .int .i64 m0, .int .i64 m1, .int .i64 m2] 26)).alloc (.cells #[.int .i64 1, .int .i64 t, .string s, .int .i64 x, .slice A n cap, .int .i64 m0, .int .i64 m1, .int .i64 1] 26)).alloc (.cells #[.int .i64 1, .int .i64 t, .string s, .int .i64 x, .slice (some ⟨w2.heap.size + 1 + 1 + 1, 0, none⟩) 1 1, .int .i64 m0, .int .i64 m1, .int .i64 m2] 26)).alloc (.cells #[.int .i64 1, .string ⟨#[116]⟩, .string ⟨#[]⟩, .float .f64 0] 33) = W := ⟨_, rfl⟩
  have sz1 : (w2.alloc (.cells #[.int .i64 1, .int .i64 time, .string s, .int .i64 x, .slice A n cap, .int .i64 m0, .int .i64 m1, .int .i64 m2] 26)).heap.size = w2.heap.size + 1 := by simp
  have sz2 : ((w2.alloc (.cells #[.int .i64 1, .int .i64 time, .string s, .int .i64 x, .slice A n cap, .int .i64 m0, .int .i64 m1, .int .i64 m2] 26)).alloc (.cells #[.int .i64 1, .int .i64 t, .string s, .int .i64 x, .slice A n cap, .int .i64 m0, .int .i64 m1, .int .i64 1] 26)).heap.size = w2.heap.size + 1 + 1 := by simp
  have sz3 : (((w2.alloc (.cells #[.int .i64 1, .int .i64 time, .string s, .int .i64 x, .slice A n cap, .int .i64 m0, .int .i64 m1, .int .i64 m2] 26)).alloc (.cells #[.int .i64 1, .int .i64 t, .string s, .int .i64 x, .slice A n cap, .int .i64 m0, .int .i64 m1, .int .i64 1] 26)).alloc (.cells #[.int .i64 1, .int .i64 t, .string s, .int .i64 x, .slice (some ⟨w2.heap.size + 1 + 1 + 1, 0, none⟩) 1 1, .int .i64 m0, .int .i64 m1, .int .i64 m2] 26)).heap.size = w2.heap.size + 1 + 1 + 1 := by simp
  have hD : BlkIs W4 w2.heap.size 26 #[.int .i64 1, .int .i64 time, .string s, .int .i64 x, .slice A n cap, .int .i64 m0, .int .i64 m1, .int .i64 m2] := by rw [← hW4]; exact (((BlkIs.new _ _ _).alloc _).alloc _).alloc _
  have hE : BlkIs W4 (w2.heap.size + 1) 26 #[.int .i64 1, .int .i64 t, .string s, .int .i64 x, .slice A n cap, .int .i64 m0, .int .i64 m1, .int .i64 1] := by
    rw [← hW4]
    have := BlkIs.new (w2.alloc (.cells #[.int .i64 1, .int .i64 time, .string s, .int .i64 x, .slice A n cap, .int .i64 m0, .int .i64 m1, .int .i64 m2] 26)) 26 #[.int .i64 1, .int .i64 t, .string s, .int .i64 x, .slice A n cap, .int .i64 m0, .int .i64 m1, .int .i64 1]
    rw [sz1] at this
    exact (this.alloc _).alloc _
  have hF : BlkIs W4 (w2.heap.size + 1 + 1) 26 #[.int .i64 1, .int .i64 t, .string s, .int .i64 x, .slice (some ⟨w2.heap.size + 1 + 1 + 1, 0, none⟩) 1 1, .int .i64 m0, .int .i64 m1, .int .i64 m2] := by
    rw [← hW4]
    have := BlkIs.new ((w2.alloc (.cells #[.int .i64 1, .int .i64 time, .string s, .int .i64 x, .slice A n cap, .int .i64 m0, .int .i64 m1, .int .i64 m2] 26)).alloc (.cells #[.int .i64 1, .int .i64 t, .string s, .int .i64 x, .slice A n cap, .int .i64 m0, .int .i64 m1, .int .i64 1] 26)) 26 #[.int .i64 1, .int .i64 t, .string s, .int .i64 x, .slice (some ⟨w2.heap.size + 1 + 1 + 1, 0, none⟩) 1 1, .int .i64 m0, .int .i64 m1, .int .i64 m2]
    rw [sz2] at this
    exact this.alloc _
  have hV : SlR W4 W4.heap.size 4 (some ⟨w2.heap.size + 1 + 1 + 1, 0, none⟩) 1 (evVs [evT]) := by
    rw [← hW4]
    have := SlR.new (((w2.alloc (.cells #[.int .i64 1, .int .i64 time, .string s, .int .i64 x, .slice A n cap, .int .i64 m0, .int .i64 m1, .int .i64 m2] 26)).alloc (.cells #[.int .i64 1, .int .i64 t, .string s, .int .i64 x, .slice A n cap, .int .i64 m0, .int .i64 m1, .int .i64 1] 26)).alloc (.cells #[.int .i64 1, .int .i64 t, .string s, .int .i64 x, .slice (some ⟨w2.heap.size + 1 + 1 + 1, 0, none⟩) 1 1, .int .i64 m0, .int .i64 m1, .int .i64 m2] 26)) _ sz3 33 (n := 1) (size := 4) #[.int .i64 1, .string ⟨#[116]⟩, .string ⟨#[]⟩, .float .f64 0] rfl
    exact this.more (by simp)
  have hb4 : Below w2.heap.size w2 W4 := by rw [← hW4]; exact ((((Below.refl _ _).alloc (Nat.le_refl _) _).alloc (by simp) _).alloc (by simp; omega) _).alloc (by simp; omega) _
  have hM4 := HM2.out.below hb4 hlM2
  have hcM4 := hM4.cell
  have hlM4 := hM4.lt
  clear sz1 sz2 sz3
  obtain ⟨W5, hW5⟩ : ∃ W, W4.alloc (.cells #[.int .i64 9, .int .i64 t, .string s, .int .i64 x, .slice A n cap, .int .i64 m0, .int .i64 m1, .int .i64 m2] 26) = W := ⟨_, rfl⟩
  have hb5 : Below W4.heap.size W4 W5 := by rw [← hW5]; exact (Below.refl _ _).alloc (Nat.le_refl _) _
  have hG : BlkIs W5 W4.heap.size 26 #[.int .i64 9, .int .i64 t, .string s, .int .i64 x, .slice A n cap, .int .i64 m0, .int .i64 m1, .int .i64 m2] := by rw [← hW5]; exact BlkIs.new _ _ _
  have hD5 := hD.below hb5 hD.lt; have hE5 := hE.below hb5 hE.lt; have hF5 := hF.below hb5 hF.lt; have hM5 := hM4.below hb5 hM4.lt; have hV5 := hV.below hb5
  have hB5 : Below w2.heap.size w2 W5 := hb4.trans (hb5.mono hb4.size)
  have h45 : W4.heap.size ≤ W5.heap.size := hb5.size
  have hS0 : ∀ wx, Below W5.heap.size W5 wx → (∀ i, wx.cell? ⟨w.heap.size, i, none⟩ = (#[.int .i64 1, .int .i64 t, .string s, .int .i64 x, .slice A n cap, .int .i64 m0, .int .i64 m1, .int .i64 m2] : Array Value)[i]?) ∧ (∀ i, wx.cell? ⟨w2.heap.size, i, none⟩ = (#[.int .i64 1, .int .i64 time, .string s, .int .i64 x, .slice A n cap, .int .i64 m0, .int .i64 m1, .int .i64 m2] : Array Value)[i]?) ∧ (∀ i, wx.cell? ⟨w2.heap.size + 1, i, none⟩ = (#[.int .i64 1, .int .i64 t, .string s, .int .i64 x, .slice A n cap, .int .i64 m0, .int .i64 m1, .int .i64 1] : Array Value)[i]?) ∧ (∀ i, wx.cell? ⟨w2.heap.size + 1 + 1, i, none⟩ = (#[.int .i64 1, .int .i64 t, .string s, .int .i64 x, .slice (some ⟨w2.heap.size + 1 + 1 + 1, 0, none⟩) 1 1, .int .i64 m0, .int .i64 m1, .int .i64 m2] : Array Value)[i]?) ∧ (∀ i, wx.cell? ⟨W4.heap.size, i, none⟩ = (#[.int .i64 9, .int .i64 t, .string s, .int .i64 x, .slice A n cap, .int .i64 m0, .int .i64 m1, .int .i64 m2] : Array Value)[i]?) := fun wx h => ⟨(hM5.below h hM5.lt).cell, (hD5.below h hD5.lt).cell, (hE5.below h hE5.lt).cell, (hF5.below h hF5.lt).cell, (hG.below h hG.lt).cell⟩
  have hZ0 : ∀ wx, Below W5.heap.size W5 wx → Below W0.heap.size W0 wx ∧ SlR wx W4.heap.size 4 (some ⟨w2.heap.size + 1 + 1 + 1, 0, none⟩) 1 (evVs [evT]) ∧ W4.heap.size ≤ wx.heap.size := fun wx h =>
    ⟨Hb2.out.trans ((hB5.mono Hb2.out.size).trans (h.mono (Nat.le_trans Hb2.out.size hB5.size))), hV5.below (h.mono h45), Nat.le_trans h45 h.size⟩
  have HS := Lib.hid hS0; have HZ := Lib.hid hZ0; have HB5 := Lib.hid hB5
  clear hS0 hZ0 hB5 hD hE hF hV hM4 hb4 hb5 hG hD5 hE5 hF5 hM5 hV5 h45
  have HB : Below W5.heap.size W5 W5 := Below.refl _ _
  have hS := HS.out _ HB
  have tok1 : True := trivial
  have tok2 : True := trivial
  have tok3 : True := trivial
  have tok4 : True := trivial
  go_wp2_with fail
  clear hcM4 hcM2
  first
    | (go_region_held (fun wx => (∀ i, wx.cell? ⟨w.heap.size, i, none⟩ = (#[.int .i64 1, .int .i64 t, .string s, .int .i64 x, .slice A n cap, .int .i64 m0, .int .i64 m1, .int .i64 m2] : Array Value)[i]?) ∧ (∀ i, wx.cell? ⟨w2.heap.size, i, none⟩ = (#[.int .i64 1, .int .i64 time, .string s, .int .i64 x, .slice A n cap, .int .i64 m0, .int .i64 m1, .int .i64 m2] : Array Value)[i]?) ∧ (∀ i, wx.cell? ⟨w2.heap.size + 1, i, none⟩ = (#[.int .i64 1, .int .i64 t, .string s, .int .i64 x, .slice A n cap, .int .i64 m0, .int .i64 m1, .int .i64 1] : Array Value)[i]?) ∧ (∀ i, wx.cell? ⟨w2.heap.size + 1 + 1, i, none⟩ = (#[.int .i64 1, .int .i64 t, .string s, .int .i64 x, .slice (some ⟨w2.heap.size + 1 + 1 + 1, 0, none⟩) 1 1, .int .i64 m0, .int .i64 m1, .int .i64 m2] : Array Value)[i]?) ∧ (∀ i, wx.cell? ⟨W4.heap.size, i, none⟩ = (#[.int .i64 9, .int .i64 t, .string s, .int .i64 x, .slice A n cap, .int .i64 m0, .int .i64 m1, .int .i64 m2] : Array Value)[i]?)) (first | exact hS | go_keep) ((first
        | (go_at_call 11; refine (alive7_any _).mono ?_; rintro e wx ⟨rfl, hb⟩; have HB := HB.trans ((by first | exact hb | exact below_undrew hb : Below _ _ _).mono HB.size); have hS := HS.out _ HB)
        | (go_at_call 12; have _t := tok1; clear tok1 _t; refine (K1.out _ (HZ.out _ HB).1).mono ?_; rintro e wx ⟨rfl, hb⟩; have HB := HB.trans ((by first | exact hb | exact below_undrew hb : Below _ _ _).mono HB.size); have hS := HS.out _ HB)
        | (go_at_call 12; have _t := tok2; clear tok2 _t; refine (K2.out _ (HZ.out _ HB).1).mono ?_; rintro e wx ⟨rfl, hb⟩; have HB := HB.trans ((by first | exact hb | exact below_undrew hb : Below _ _ _).mono HB.size); have hS := HS.out _ HB)
        | (go_at_call 12; have _t := tok3; clear tok3 _t; refine (K3.out _ _ _ (HZ.out _ HB).2.1 (HZ.out _ HB).2.2).mono ?_; rintro e wx ⟨rfl, hb⟩; have HB := HB.trans ((by first | exact hb | exact below_undrew hb : Below _ _ _).mono HB.size); have hS := HS.out _ HB)
        | (go_at_call 12; have _t := tok4; clear tok4 _t; refine (K4.out _ (HZ.out _ HB).1).mono ?_; rintro e wx ⟨rfl, hb⟩; have HB := HB.trans ((by first | exact hb | exact below_undrew hb : Below _ _ _).mono HB.size); have hS := HS.out _ HB))))
    | fail
  all_goals
    go_wp2_with fail
    go_ret
    have h5 := Hb0.out.trans ((Hb2.out.trans (HB5.out.mono Hb2.out.size)).mono Hb0.out.size)
    exact ⟨rfl, h5.trans ((by first | exact HB | exact below_drewN HB 1 : Below W5.heap.size W5 _).mono h5.size)⟩

theorem parts_1_hi (t : Int) (s : ByteArray) (x : Int) (A : Option Addr) (n cap : Nat) (es : List Ev) (m0 m1 m2 time : Int) (w : World) (hr : SlR w w.heap.size 4 A n (evVs es)) (hn : n ≤ 9223372036854775807) (hf : (⟨1, t, s, x, es, m0, m1, m2⟩ : Cmd).fits) (hsm : smallC s es = true) (hc0 : checkC ⟨1, t, s, x, es, m0, m1, m2⟩ = 0) (ht0 : 0 ≤ time) (ht1 : 1099511627776 < time) :
    Calls Try.prog 3 #[.agg #[.int .i64 1, .int .i64 t, .string s, .int .i64 x, .slice A n cap, .int .i64 m0, .int .i64 m1, .int .i64 m2], .int .i64 time] w fun e w' => e = .returned (.bool true) ∧ Below w.heap.size w w' := by
  obtain ⟨hn12, hs100, hev⟩ := smallC_few hsm
  have hl : es.length = n := by have := hr.len; rw [evVs_length] at this; omega
  have p1 := parts_time hc0 time; have p2 := parts_meta hc0; have p3 := parts_events hc0; have p4 := parts_kind ⟨1, t, s, x, es, m0, m1, m2⟩
  dsimp only at p1 p2 p3 p4
  rw [if_neg (by omega)] at p1
  rw [if_neg (by decide)] at p2
  rw [if_pos rfl] at p3
  obtain ⟨W0, hW0⟩ : ∃ W, w.alloc (.cells #[.int .i64 1, .int .i64 t, .string s, .int .i64 x, .slice A n cap, .int .i64 m0, .int .i64 m1, .int .i64 m2] 26) = W := ⟨_, rfl⟩
  have hM : BlkIs W0 w.heap.size 26 #[.int .i64 1, .int .i64 t, .string s, .int .i64 x, .slice A n cap, .int .i64 m0, .int .i64 m1, .int .i64 m2] := by rw [← hW0]; exact BlkIs.new _ _ _
  have hb0 : Below w.heap.size w W0 := by rw [← hW0]; exact (Below.refl _ _).alloc (Nat.le_refl _) _
  have hr0 := hr.below hb0
  have ksm := fun (w1 : World) (h : Below W0.heap.size W0 w1) => small_any 1 t s x A n cap w.heap.size es m0 m1 m2 w1 (hr0.below (h.mono hb0.size)) (Nat.le_trans hb0.size h.size) hn hf.es hf.s1
  rw [hsm] at ksm
  have kck := fun (w1 : World) (h : Below W0.heap.size W0 w1) => check_any 1 t s x A n cap w.heap.size es m0 m1 m2 w1 (hr0.below (h.mono hb0.size)) (Nat.le_trans hb0.size h.size) (by omega) hf.es hf.s1
  rw [hc0] at kck
  have k1 := fun (w1 : World) (h : Below W0.heap.size W0 w1) => check_any 1 time s x A n cap w.heap.size es m0 m1 m2 w1 (hr0.below (h.mono hb0.size)) (Nat.le_trans hb0.size h.size) (by omega) hf.es hf.s1
  rw [p1] at k1
  have k2 := fun (w1 : World) (h : Below W0.heap.size W0 w1) => check_any 1 t s x A n cap w.heap.size es m0 m1 1 w1 (hr0.below (h.mono hb0.size)) (Nat.le_trans hb0.size h.size) (by omega) hf.es hf.s1
  rw [p2] at k2
  have k3 := fun (D : Option Addr) (B : Nat) (w1 : World) (h : SlR w1 B 4 D 1 (evVs [evT])) (hB : B ≤ w1.heap.size) => check_any 1 t s x D 1 1 B [evT] m0 m1 m2 w1 h hB (by omega) (fun e he => by simp at he; subst he; exact ⟨by decide, by decide, by decide, by decide, by decide⟩) hf.s1
  rw [p3] at k3
  have k4 := fun (w1 : World) (h : Below W0.heap.size W0 w1) => check_any 9 t s x A n cap w.heap.size es m0 m1 m2 w1 (hr0.below (h.mono hb0.size)) (Nat.le_trans hb0.size h.size) (by omega) hf.es hf.s1
  rw [p4] at k4
  have hcM := hM.cell; have hlM := hM.lt
  have HM := Lib.hid hM; have Hb0 := Lib.hid hb0; have Ksm := Lib.hid ksm; have Kck := Lib.hid kck; have K1 := Lib.hid k1; have K2 := Lib.hid k2; have K3 := Lib.hid k3; have K4 := Lib.hid k4
  clear hM hb0 ksm kck k1 k2 k3 k4 p1 p2 p3 p4 hr hr0 hf hsm hc0 hev hl
  have d0 : decide (0 ≤ time) = true := decide_eq_true ht0
  have d1 : decide (time ≤ 1099511627776) = false := decide_eq_false (by omega)
  go_enter Try.func3, Try.ntmps3
  go_wp2_with fail
  (try rw [hW0])
  refine (Ksm.out _ (Below.refl _ _)).mono ?_
  rintro y w1 ⟨rfl, hb1⟩
  have hcM1 := (HM.out.below hb1 HM.out.lt).cell
  have Hb1 := Lib.hid hb1; clear hb1 hcM
  go_wp2_with fail
  refine (Kck.out _ Hb1.out).mono ?_
  rintro y w2 ⟨rfl, hb2⟩
  have hb02 := Hb1.out.trans (hb2.mono Hb1.out.size)
  have hM2 := HM.out.below hb02 HM.out.lt
  have hcM2 := hM2.cell
  have hlM2 := hM2.lt
  have Hb2 := Lib.hid hb02; have HM2 := Lib.hid hM2
  clear hb2 hb02 hcM1 hM2
  obtain ⟨W4, hW4⟩ : ∃ W, (((w2.alloc (.cells #[.int .i64 1, .int .i64 time, .string s, .int .i64 x, .slice A n cap, .int .i64 m0, .int .i64 m1, .int .i64 m2] 26)).alloc (.cells #[.int .i64 1, .int .i64 t, .string s, .int .i64 x, .slice A n cap, .int .i64 m0, .int .i64 m1, .int .i64 1] 26)).alloc (.cells #[.int .i64 1, .int .i64 t, .string s, .int .i64 x, .slice (some ⟨w2.heap.size + 1 + 1 + 1, 0, none⟩) 1 1, .int .i64 m0, .int .i64 m1, .int .i64 m2] 26)).alloc (.cells #[.int .i64 1, .string ⟨#[116]⟩, .string ⟨#[]⟩, .float .f64 0] 33) = W := ⟨_, rfl⟩
  have sz1 : (w2.alloc (.cells #[.int .i64 1, .int .i64 time, .string s, .int .i64 x, .slice A n cap, .int .i64 m0, .int .i64 m1, .int .i64 m2] 26)).heap.size = w2.heap.size + 1 := by simp
  have sz2 : ((w2.alloc (.cells #[.int .i64 1, .int .i64 time, .string s, .int .i64 x, .slice A n cap, .int .i64 m0, .int .i64 m1, .int .i64 m2] 26)).alloc (.cells #[.int .i64 1, .int .i64 t, .string s, .int .i64 x, .slice A n cap, .int .i64 m0, .int .i64 m1, .int .i64 1] 26)).heap.size = w2.heap.size + 1 + 1 := by simp
  have sz3 : (((w2.alloc (.cells #[.int .i64 1, .int .i64 time, .string s, .int .i64 x, .slice A n cap, .int .i64 m0, .int .i64 m1, .int .i64 m2] 26)).alloc (.cells #[.int .i64 1, .int .i64 t, .string s, .int .i64 x, .slice A n cap, .int .i64 m0, .int .i64 m1, .int .i64 1] 26)).alloc (.cells #[.int .i64 1, .int .i64 t, .string s, .int .i64 x, .slice (some ⟨w2.heap.size + 1 + 1 + 1, 0, none⟩) 1 1, .int .i64 m0, .int .i64 m1, .int .i64 m2] 26)).heap.size = w2.heap.size + 1 + 1 + 1 := by simp
  have hD : BlkIs W4 w2.heap.size 26 #[.int .i64 1, .int .i64 time, .string s, .int .i64 x, .slice A n cap, .int .i64 m0, .int .i64 m1, .int .i64 m2] := by rw [← hW4]; exact (((BlkIs.new _ _ _).alloc _).alloc _).alloc _
  have hE : BlkIs W4 (w2.heap.size + 1) 26 #[.int .i64 1, .int .i64 t, .string s, .int .i64 x, .slice A n cap, .int .i64 m0, .int .i64 m1, .int .i64 1] := by
    rw [← hW4]
    have := BlkIs.new (w2.alloc (.cells #[.int .i64 1, .int .i64 time, .string s, .int .i64 x, .slice A n cap, .int .i64 m0, .int .i64 m1, .int .i64 m2] 26)) 26 #[.int .i64 1, .int .i64 t, .string s, .int .i64 x, .slice A n cap, .int .i64 m0, .int .i64 m1, .int .i64 1]
    rw [sz1] at this
    exact (this.alloc _).alloc _
  have hF : BlkIs W4 (w2.heap.size + 1 + 1) 26 #[.int .i64 1, .int .i64 t, .string s, .int .i64 x, .slice (some ⟨w2.heap.size + 1 + 1 + 1, 0, none⟩) 1 1, .int .i64 m0, .int .i64 m1, .int .i64 m2] := by
    rw [← hW4]
    have := BlkIs.new ((w2.alloc (.cells #[.int .i64 1, .int .i64 time, .string s, .int .i64 x, .slice A n cap, .int .i64 m0, .int .i64 m1, .int .i64 m2] 26)).alloc (.cells #[.int .i64 1, .int .i64 t, .string s, .int .i64 x, .slice A n cap, .int .i64 m0, .int .i64 m1, .int .i64 1] 26)) 26 #[.int .i64 1, .int .i64 t, .string s, .int .i64 x, .slice (some ⟨w2.heap.size + 1 + 1 + 1, 0, none⟩) 1 1, .int .i64 m0, .int .i64 m1, .int .i64 m2]
    rw [sz2] at this
    exact this.alloc _
  have hV : SlR W4 W4.heap.size 4 (some ⟨w2.heap.size + 1 + 1 + 1, 0, none⟩) 1 (evVs [evT]) := by
    rw [← hW4]
    have := SlR.new (((w2.alloc (.cells #[.int .i64 1, .int .i64 time, .string s, .int .i64 x, .slice A n cap, .int .i64 m0, .int .i64 m1, .int .i64 m2] 26)).alloc (.cells #[.int .i64 1, .int .i64 t, .string s, .int .i64 x, .slice A n cap, .int .i64 m0, .int .i64 m1, .int .i64 1] 26)).alloc (.cells #[.int .i64 1, .int .i64 t, .string s, .int .i64 x, .slice (some ⟨w2.heap.size + 1 + 1 + 1, 0, none⟩) 1 1, .int .i64 m0, .int .i64 m1, .int .i64 m2] 26)) _ sz3 33 (n := 1) (size := 4) #[.int .i64 1, .string ⟨#[116]⟩, .string ⟨#[]⟩, .float .f64 0] rfl
    exact this.more (by simp)
  have hb4 : Below w2.heap.size w2 W4 := by rw [← hW4]; exact ((((Below.refl _ _).alloc (Nat.le_refl _) _).alloc (by simp) _).alloc (by simp; omega) _).alloc (by simp; omega) _
  have hM4 := HM2.out.below hb4 hlM2
  have hcM4 := hM4.cell
  have hlM4 := hM4.lt
  clear sz1 sz2 sz3
  obtain ⟨W5, hW5⟩ : ∃ W, W4.alloc (.cells #[.int .i64 9, .int .i64 t, .string s, .int .i64 x, .slice A n cap, .int .i64 m0, .int .i64 m1, .int .i64 m2] 26) = W := ⟨_, rfl⟩
  have hb5 : Below W4.heap.size W4 W5 := by rw [← hW5]; exact (Below.refl _ _).alloc (Nat.le_refl _) _
  have hG : BlkIs W5 W4.heap.size 26 #[.int .i64 9, .int .i64 t, .string s, .int .i64 x, .slice A n cap, .int .i64 m0, .int .i64 m1, .int .i64 m2] := by rw [← hW5]; exact BlkIs.new _ _ _
  have hD5 := hD.below hb5 hD.lt; have hE5 := hE.below hb5 hE.lt; have hF5 := hF.below hb5 hF.lt; have hM5 := hM4.below hb5 hM4.lt; have hV5 := hV.below hb5
  have hB5 : Below w2.heap.size w2 W5 := hb4.trans (hb5.mono hb4.size)
  have h45 : W4.heap.size ≤ W5.heap.size := hb5.size
  have hS0 : ∀ wx, Below W5.heap.size W5 wx → (∀ i, wx.cell? ⟨w.heap.size, i, none⟩ = (#[.int .i64 1, .int .i64 t, .string s, .int .i64 x, .slice A n cap, .int .i64 m0, .int .i64 m1, .int .i64 m2] : Array Value)[i]?) ∧ (∀ i, wx.cell? ⟨w2.heap.size, i, none⟩ = (#[.int .i64 1, .int .i64 time, .string s, .int .i64 x, .slice A n cap, .int .i64 m0, .int .i64 m1, .int .i64 m2] : Array Value)[i]?) ∧ (∀ i, wx.cell? ⟨w2.heap.size + 1, i, none⟩ = (#[.int .i64 1, .int .i64 t, .string s, .int .i64 x, .slice A n cap, .int .i64 m0, .int .i64 m1, .int .i64 1] : Array Value)[i]?) ∧ (∀ i, wx.cell? ⟨w2.heap.size + 1 + 1, i, none⟩ = (#[.int .i64 1, .int .i64 t, .string s, .int .i64 x, .slice (some ⟨w2.heap.size + 1 + 1 + 1, 0, none⟩) 1 1, .int .i64 m0, .int .i64 m1, .int .i64 m2] : Array Value)[i]?) ∧ (∀ i, wx.cell? ⟨W4.heap.size, i, none⟩ = (#[.int .i64 9, .int .i64 t, .string s, .int .i64 x, .slice A n cap, .int .i64 m0, .int .i64 m1, .int .i64 m2] : Array Value)[i]?) := fun wx h => ⟨(hM5.below h hM5.lt).cell, (hD5.below h hD5.lt).cell, (hE5.below h hE5.lt).cell, (hF5.below h hF5.lt).cell, (hG.below h hG.lt).cell⟩
  have hZ0 : ∀ wx, Below W5.heap.size W5 wx → Below W0.heap.size W0 wx ∧ SlR wx W4.heap.size 4 (some ⟨w2.heap.size + 1 + 1 + 1, 0, none⟩) 1 (evVs [evT]) ∧ W4.heap.size ≤ wx.heap.size := fun wx h =>
    ⟨Hb2.out.trans ((hB5.mono Hb2.out.size).trans (h.mono (Nat.le_trans Hb2.out.size hB5.size))), hV5.below (h.mono h45), Nat.le_trans h45 h.size⟩
  have HS := Lib.hid hS0; have HZ := Lib.hid hZ0; have HB5 := Lib.hid hB5
  clear hS0 hZ0 hB5 hD hE hF hV hM4 hb4 hb5 hG hD5 hE5 hF5 hM5 hV5 h45
  have HB : Below W5.heap.size W5 W5 := Below.refl _ _
  have hS := HS.out _ HB
  have tok1 : True := trivial
  have tok2 : True := trivial
  have tok3 : True := trivial
  have tok4 : True := trivial
  go_wp2_with fail
  clear hcM4 hcM2
  go_region_held3 (fun wx => (∀ i, wx.cell? ⟨w.heap.size, i, none⟩ = (#[.int .i64 1, .int .i64 t, .string s, .int .i64 x, .slice A n cap, .int .i64 m0, .int .i64 m1, .int .i64 m2] : Array Value)[i]?) ∧ (∀ i, wx.cell? ⟨w2.heap.size, i, none⟩ = (#[.int .i64 1, .int .i64 time, .string s, .int .i64 x, .slice A n cap, .int .i64 m0, .int .i64 m1, .int .i64 m2] : Array Value)[i]?) ∧ (∀ i, wx.cell? ⟨w2.heap.size + 1, i, none⟩ = (#[.int .i64 1, .int .i64 t, .string s, .int .i64 x, .slice A n cap, .int .i64 m0, .int .i64 m1, .int .i64 1] : Array Value)[i]?) ∧ (∀ i, wx.cell? ⟨w2.heap.size + 1 + 1, i, none⟩ = (#[.int .i64 1, .int .i64 t, .string s, .int .i64 x, .slice (some ⟨w2.heap.size + 1 + 1 + 1, 0, none⟩) 1 1, .int .i64 m0, .int .i64 m1, .int .i64 m2] : Array Value)[i]?) ∧ (∀ i, wx.cell? ⟨W4.heap.size, i, none⟩ = (#[.int .i64 9, .int .i64 t, .string s, .int .i64 x, .slice A n cap, .int .i64 m0, .int .i64 m1, .int .i64 m2] : Array Value)[i]?)) (first | exact hS | go_keep) ((first
    | (go_at_call 11; refine (alive7_any _).mono ?_; rintro e wx ⟨rfl, hb⟩; have HB := HB.trans ((by first | exact hb | exact below_undrew hb : Below _ _ _).mono HB.size); have hS := HS.out _ HB)
    | (go_at_call 12; have _t := tok1; clear tok1 _t; refine (K1.out _ (HZ.out _ HB).1).mono ?_; rintro e wx ⟨rfl, hb⟩; have HB := HB.trans ((by first | exact hb | exact below_undrew hb : Below _ _ _).mono HB.size); have hS := HS.out _ HB)
    | (go_at_call 12; have _t := tok2; clear tok2 _t; refine (K2.out _ (HZ.out _ HB).1).mono ?_; rintro e wx ⟨rfl, hb⟩; have HB := HB.trans ((by first | exact hb | exact below_undrew hb : Below _ _ _).mono HB.size); have hS := HS.out _ HB)
    | (go_at_call 12; have _t := tok3; clear tok3 _t; refine (K3.out _ _ _ (HZ.out _ HB).2.1 (HZ.out _ HB).2.2).mono ?_; rintro e wx ⟨rfl, hb⟩; have HB := HB.trans ((by first | exact hb | exact below_undrew hb : Below _ _ _).mono HB.size); have hS := HS.out _ HB)
    | (go_at_call 12; have _t := tok4; clear tok4 _t; refine (K4.out _ (HZ.out _ HB).1).mono ?_; rintro e wx ⟨rfl, hb⟩; have HB := HB.trans ((by first | exact hb | exact below_undrew hb : Below _ _ _).mono HB.size); have hS := HS.out _ HB)))
  all_goals
    go_wp2_with fail
    go_ret
    have h5 := Hb0.out.trans ((Hb2.out.trans (HB5.out.mono Hb2.out.size)).mono Hb0.out.size)
    exact ⟨rfl, h5.trans ((by first | exact HB | exact below_drewN HB 1 : Below W5.heap.size W5 _).mono h5.size)⟩

end Go.Proofs.Ytfpalamoaflilaa
