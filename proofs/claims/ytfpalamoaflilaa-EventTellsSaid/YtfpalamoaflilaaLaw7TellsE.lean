/- chapter 7: EventTells where a command is not small, or the bytes are too many (printed by mktells7.py) -/
import Derived.Test.YtfpalamoaflilaaRefGet
import Derived.Test.YtfpalamoaflilaaRefSame
import Derived.Test.YtfpalamoaflilaaEvAlive
import Derived.Deep.RegionHeld3
import Derived.Deep.RegionLaw
import Derived.Deep.DeepCutAuto
import Derived.Deep.CutBlock
namespace Go.Proofs.Ytfpalamoaflilaa
open Go.RowKit
set_option maxHeartbeats 100000000
set_option maxRecDepth 100000
set_option linter.unusedVariables false
attribute [local go_sem] run_store_flt

theorem tells7_early (k t : Int) (s : ByteArray) (x : Int) (A : Option Addr) (n c : Nat) (es : List Ev) (m0 m1 m2 : Int) (k' t' : Int) (s' : ByteArray) (x' : Int) (D : Option Addr) (m d : Nat) (fs : List Ev) (p0 p1 p2 : Int) (b : ByteArray) (w : World)
    (ha : SlR w w.heap.size 4 A n (evVs es)) (hd : SlR w w.heap.size 4 D m (evVs fs)) (hn : n ≤ 9223372036854775807) (hm : m ≤ 9223372036854775807) (hf : (⟨k, t, s, x, es, m0, m1, m2⟩ : Cmd).fits) (hf2 : (⟨k', t', s', x', fs, p0, p1, p2⟩ : Cmd).fits) (hb : b.size ≤ 9223372036854775807)
    (hno : smallC s es = false ∨ (smallC s es = true ∧ smallC s' fs = false) ∨ (smallC s es = true ∧ smallC s' fs = true ∧ 4000 < b.size)) :
    Calls Try.prog 6 #[.agg #[.int .i64 k, .int .i64 t, .string s, .int .i64 x, .slice A n c, .int .i64 m0, .int .i64 m1, .int .i64 m2], .agg #[.int .i64 k', .int .i64 t', .string s', .int .i64 x', .slice D m d, .int .i64 p0, .int .i64 p1, .int .i64 p2], .string b] w fun e w' => e = .returned (.bool true) ∧ Below w.heap.size w w' := by
  obtain ⟨V0, hV0⟩ : ∃ V, w.alloc (.cells #[.int .i64 k, .int .i64 t, .string s, .int .i64 x, .slice A n c, .int .i64 m0, .int .i64 m1, .int .i64 m2] 26) = V := ⟨_, rfl⟩
  have hA0 : BlkIs V0 w.heap.size 26 #[.int .i64 k, .int .i64 t, .string s, .int .i64 x, .slice A n c, .int .i64 m0, .int .i64 m1, .int .i64 m2] := by rw [← hV0]; exact BlkIs.new _ _ _
  have hb0 : Below w.heap.size w V0 := by rw [← hV0]; exact (Below.refl _ _).alloc (Nat.le_refl _) _
  obtain ⟨V, hV⟩ : ∃ V, V0.alloc (.cells #[.int .i64 k', .int .i64 t', .string s', .int .i64 x', .slice D m d, .int .i64 p0, .int .i64 p1, .int .i64 p2] 26) = V := ⟨_, rfl⟩
  have hD : BlkIs V V0.heap.size 26 #[.int .i64 k', .int .i64 t', .string s', .int .i64 x', .slice D m d, .int .i64 p0, .int .i64 p1, .int .i64 p2] := by rw [← hV]; exact BlkIs.new _ _ _
  have hb1 : Below V0.heap.size V0 V := by rw [← hV]; exact (Below.refl _ _).alloc (Nat.le_refl _) _
  have hA := hA0.below hb1 hA0.lt
  have hbV : Below w.heap.size w V := hb0.trans (hb1.mono hb0.size)
  have ha1 := ha.below hbV; have hd1 := hd.below hbV
  have hla : es.length = n := by have := ha.len; rw [evVs_length] at this; omega
  have hld : fs.length = m := by have := hd.len; rw [evVs_length] at this; omega
  have hsmA := fun wx (h : Below V.heap.size V wx) => small_any k t s x A n c w.heap.size es m0 m1 m2 wx (ha1.below (h.mono hbV.size)) (Nat.le_trans hbV.size h.size) hn hf.es hf.s1
  have hsmD := fun wx (h : Below V.heap.size V wx) => small_any k' t' s' x' D m d w.heap.size fs p0 p1 p2 wx (hd1.below (h.mono hbV.size)) (Nat.le_trans hbV.size h.size) hm hf2.es hf2.s1
  have hS0 : ∀ wx, Below V.heap.size V wx → (∀ i, wx.cell? ⟨w.heap.size, i, none⟩ = (#[.int .i64 k, .int .i64 t, .string s, .int .i64 x, .slice A n c, .int .i64 m0, .int .i64 m1, .int .i64 m2] : Array Value)[i]?) ∧ (∀ i, wx.cell? ⟨V0.heap.size, i, none⟩ = (#[.int .i64 k', .int .i64 t', .string s', .int .i64 x', .slice D m d, .int .i64 p0, .int .i64 p1, .int .i64 p2] : Array Value)[i]?) := fun wx h => ⟨(hA.below h hA.lt).cell, (hD.below h hD.lt).cell⟩
  have HB := Below.refl V.heap.size V
  obtain ⟨cA, cD⟩ := hS0 _ HB
  have HS := Lib.hid hS0; have HbV := Lib.hid hbV
  rcases hno with h1 | ⟨h1, h2⟩ | ⟨h1, h2, h3⟩
  · rw [h1] at hsmA
    have HsmA := Lib.hid hsmA
    clear hA0 hb0 hD hb1 hA hbV ha1 hd1 hla hld hsmA hsmD hS0 ha hd hf hf2 h1
    go_enter Try.func6, Try.ntmps6
    go_wp2_with fail
    (try rw [hV0])
    (try rw [hV])
    refine (HsmA.out _ HB).mono ?_
    rintro e wx ⟨rfl, hb⟩
    replace HB := HB.trans (hb.mono HB.size)
    clear hb cA cD
    obtain ⟨cA, cD⟩ := HS.out _ HB
    go_wp2_with fail
    refine (alive7_any _).mono ?_
    rintro e wx ⟨rfl, hb⟩
    replace HB := HB.trans (hb.mono HB.size)
    clear hb
    go_wp2_with fail
    go_ret
    exact ⟨rfl, HbV.out.trans (HB.mono HbV.out.size)⟩
  · rw [h1] at hsmA; rw [h2] at hsmD
    have HsmA := Lib.hid hsmA; have HsmD := Lib.hid hsmD
    clear hA0 hb0 hD hb1 hA hbV ha1 hd1 hla hld hsmA hsmD hS0 ha hd hf hf2 h1 h2
    go_enter Try.func6, Try.ntmps6
    go_wp2_with fail
    (try rw [hV0])
    (try rw [hV])
    refine (HsmA.out _ HB).mono ?_
    rintro e wx ⟨rfl, hb⟩
    replace HB := HB.trans (hb.mono HB.size)
    clear hb cA cD
    obtain ⟨cA, cD⟩ := HS.out _ HB
    go_wp2_with fail
    refine (HsmD.out _ HB).mono ?_
    rintro e wx ⟨rfl, hb⟩
    replace HB := HB.trans (hb.mono HB.size)
    clear hb cA cD
    obtain ⟨cA, cD⟩ := HS.out _ HB
    go_wp2_with fail
    refine (alive7_any _).mono ?_
    rintro e wx ⟨rfl, hb⟩
    replace HB := HB.trans (hb.mono HB.size)
    clear hb
    go_wp2_with fail
    go_ret
    exact ⟨rfl, HbV.out.trans (HB.mono HbV.out.size)⟩
  · rw [h1] at hsmA; rw [h2] at hsmD
    have HsmA := Lib.hid hsmA; have HsmD := Lib.hid hsmD
    have g1 : decide ((4000 : Int) < (b.size : Int)) = true := decide_eq_true (by omega)
    clear hA0 hb0 hD hb1 hA hbV ha1 hd1 hla hld hsmA hsmD hS0 ha hd hf hf2 h1 h2 h3
    go_enter Try.func6, Try.ntmps6
    go_wp2_with fail
    (try rw [hV0])
    (try rw [hV])
    refine (HsmA.out _ HB).mono ?_
    rintro e wx ⟨rfl, hb⟩
    replace HB := HB.trans (hb.mono HB.size)
    clear hb cA cD
    obtain ⟨cA, cD⟩ := HS.out _ HB
    go_wp2_with fail
    refine (HsmD.out _ HB).mono ?_
    rintro e wx ⟨rfl, hb⟩
    replace HB := HB.trans (hb.mono HB.size)
    clear hb cA cD
    obtain ⟨cA, cD⟩ := HS.out _ HB
    go_wp2_with fail
    refine (alive7_any _).mono ?_
    rintro e wx ⟨rfl, hb⟩
    replace HB := HB.trans (hb.mono HB.size)
    clear hb
    go_wp2_with fail
    go_ret
    exact ⟨rfl, HbV.out.trans (HB.mono HbV.out.size)⟩
end Go.Proofs.Ytfpalamoaflilaa
