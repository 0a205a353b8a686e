/- chapter 7: the first call; Small. -/
import Derived.Test.YtfpalamoaflilaaEvGet2
import Derived.Test.YtfpalamoaflilaaEvLaw2
namespace Go.Proofs.Ytfpalamoaflilaa
open Go.RowKit
set_option maxHeartbeats 4000000
set_option maxRecDepth 100000
set_option linter.unusedVariables false
attribute [local go_sem] run_store_flt

def cmd5 : Cmd := ⟨4, 5, ⟨#[]⟩, 0, [], 0, 0, 0⟩
theorem cmd5_ok : checkC cmd5 = 0 := by decide
theorem cmd5_fits : cmd5.fits := ⟨by decide, by decide, by decide, by decide, by decide, by decide, by decide, by decide, by decide, by decide, by decide, by decide, by decide, fun e h => by cases h⟩
theorem cmd5_get : getC (putC cmd5).1 = (cmd5, 0) := getC_put cmd5 (by rw [putC_snd]; exact cmd5_ok) cmd5_fits
theorem cmd5_few : (putC cmd5).1.length ≤ 100000 := by
  unfold putC
  rw [if_pos cmd5_ok]
  unfold cmdL headC metaL
  simp only [List.length_append, beBytes_length, be64_length, textL_length]
  decide
theorem checkS : checkC ⟨1, 0, ⟨#[115]⟩, 0, [], 0, 0, 0⟩ = 1 := by decide

theorem alive7_any (W : World) : Calls Try.prog 11 #[] W fun e w' => e = .returned (.bool true) ∧ Below W.heap.size W w' := by
  have hput := fun w => put_any 4 5 ⟨#[]⟩ 0 none 0 0 0 [] 0 0 0 w (SlR.nil _ _ _ _) (Nat.zero_le _) (by decide) (fun e h => by cases h) (by decide)
  have hp2 : putC ⟨4, 5, ⟨#[]⟩, 0, [], 0, 0, 0⟩ = ((putC cmd5).1, 0) := by
    show putC cmd5 = _
    have := putC_snd cmd5
    rw [cmd5_ok] at this
    exact Prod.ext rfl this
  rw [hp2] at hput
  have hfew := cmd5_few
  have hget := cmd5_get
  generalize (putC cmd5).1 = pl at hput hfew hget
  dsimp only at hput
  have hg := fun w => get_any ⟨pl.toArray⟩ w (by rw [size_mk]; exact hfew)
  rw [show (ByteArray.mk pl.toArray).data.toList = pl from rfl, hget] at hg
  unfold cmd5 at hg
  dsimp only at hg
  have hv := fun w => valid_any 1 ⟨#[116]⟩ ⟨#[]⟩ 0 w (by decide) (by decide)
  rw [validT 1 (by decide)] at hv
  have hc := fun w => check_any 1 0 ⟨#[115]⟩ 0 none 0 0 0 [] 0 0 0 w (SlR.nil _ _ _ _) (Nat.zero_le _) (by decide) (fun e h => by cases h) (by decide)
  rw [checkS] at hc
  have Hput := Lib.hid hput; have Hg := Lib.hid hg; have Hv := Lib.hid hv; have Hc := Lib.hid hc
  clear hput hg hv hc hp2 hfew hget
  go_enter Try.func11, Try.ntmps11
  go_wp2_with fail
  refine (Hput.out _).mono ?_
  rintro y w1 ⟨rfl, hb1⟩
  go_wp2_with fail
  refine (Hg.out _).mono ?_
  rintro y w2 ⟨A, n, cap, rfl, -, hb2⟩
  have hb02 := hb1.trans (hb2.mono hb1.size)
  have Hb02 := Lib.hid hb02
  clear hb1 hb2 hb02
  go_wp2_with fail
  refine (Hv.out _).mono ?_
  rintro y w3 ⟨rfl, hb3⟩
  go_wp2_with fail
  refine (Hc.out _).mono ?_
  rintro y w4 ⟨rfl, hb4⟩
  go_wp2_with fail
  go_ret
  have h3 := (Hb02.out.alloc Hb02.out.size _).trans (hb3.mono (by have := Hb02.out.size; simp; omega))
  exact ⟨rfl, h3.trans (hb4.mono h3.size)⟩

theorem small_any (k t : Int) (s : ByteArray) (x : Int) (A : Option Addr) (n cap B : Nat) (es : List Ev) (m0 m1 m2 : Int) (w : World) (hr : SlR w B 4 A n (evVs es)) (hB : B ≤ w.heap.size) (hn : n ≤ 9223372036854775807) (hf : ∀ e ∈ es, e.fits) (hs : s.size ≤ 9223372036854775807) :
    Calls Try.prog 10 #[.agg #[.int .i64 k, .int .i64 t, .string s, .int .i64 x, .slice A n cap, .int .i64 m0, .int .i64 m1, .int .i64 m2]] w fun e w' => e = .returned (.bool (smallC s es)) ∧ Below w.heap.size w w' := by
  have hl : es.length = n := by have := hr.len; rw [evVs_length] at this; omega
  obtain ⟨W, hW⟩ : ∃ W, w.alloc (.cells #[.int .i64 k, .int .i64 t, .string s, .int .i64 x, .slice A n cap, .int .i64 m0, .int .i64 m1, .int .i64 m2] 26) = W := ⟨_, rfl⟩
  have hM : BlkIs W w.heap.size 26 #[.int .i64 k, .int .i64 t, .string s, .int .i64 x, .slice A n cap, .int .i64 m0, .int .i64 m1, .int .i64 m2] := by rw [← hW]; exact BlkIs.new _ _ _
  have hb0 : Below w.heap.size w W := by rw [← hW]; exact (Below.refl _ _).alloc (Nat.le_refl _) _
  have hr0 := hr.below (hb0.mono hB)
  have hc2 := hM.cell 2; have hc4 := hM.cell 4
  simp at hc2 hc4
  obtain ⟨V, hV⟩ : ∃ V, smallC s es = V := ⟨_, rfl⟩
  rw [hV]
  have Hr := Lib.hid hr0; have Hb0 := Lib.hid hb0; have Hf := Lib.hid hf; have HV := Lib.hid hV; have Hl := Lib.hid hl
  clear hr hr0 hb0 hM hf hV hl
  go_enter Try.func10, Try.ntmps10
  go_wp2_with fail
  (try rw [hW])
  go_loopw [3] (fun i wr => ∃ m : Nat, m ≤ n ∧ m ≤ 20 ∧ i = .int .i64 m ∧ (es.take m).all (fun e => decide (e.ty.size ≤ 100) && decide (e.da.size ≤ 300)) = true ∧ ∃ q, wr = W.drewN q) (fun i _ => n - (intOf i).toNat)
  case atStart => exact ⟨0, Nat.zero_le _, Nat.zero_le _, rfl, rfl, 0, rfl⟩
  case round =>
    obtain ⟨m, hm, hm20, rfl, hall, q, rfl⟩ := hrel
    have Hall := Lib.hid hall
    clear hall
    by_cases hgo : m < n ∧ m < 20
    · obtain ⟨hlm, hl20⟩ := hgo
      obtain ⟨ad, ⟨id, ty, da, va⟩, rfl, hadB, hpk, hat⟩ := Hr.out.ev hlm
      have hfe := Hf.out _ (List.mem_of_getElem? hpk)
      obtain ⟨c0, c1, c2, c3⟩ := hat
      dsimp only at c0 c1 c2 c3
      have ht1 := hfe.t1; have hd1 := hfe.d1
      dsimp only at ht1 hd1
      have hno : ¬ (decide (ty.size ≤ 100) && decide (da.size ≤ 300)) = true → V = false := fun h => by
        rw [← HV.out]
        unfold smallC
        have : (es.take 20).all (fun e => decide (e.ty.size ≤ 100) && decide (e.da.size ≤ 300)) = false := by
          rw [List.all_eq_false]
          exact ⟨⟨id, ty, da, va⟩, List.mem_of_getElem? (i := m) (by rw [List.getElem?_take_of_lt hl20]; exact hpk), h⟩
        rw [this]; rfl
      have e1 : decide (m < n) = true := decide_eq_true hlm
      have e2 : decide ((m : Int) < 20) = true := decide_eq_true (by omega)
      have hi1 : (m : Int) < n := by omega
      have Hpk := Lib.hid hpk
      clear hpk hfe c0 c3
      by_cases f1 : ty.size ≤ 100
      · have g1 : decide ((100 : Int) < (ty.size : Int)) = false := decide_eq_false (by omega)
        by_cases f2 : da.size ≤ 300
        · have g2 : decide ((300 : Int) < (da.size : Int)) = false := decide_eq_false (by omega)
          clear hno
          go_wp2_with fail
          go_roundw
          case rel => exact ⟨m + 1, by omega, by omega, by go_num, by
            have hk := (List.getElem?_eq_some_iff.mp Hpk.out).1
            rw [List.take_succ_eq_append_getElem hk, List.all_append, Hall.out, (List.getElem?_eq_some_iff.mp Hpk.out).2]
            simp [f1, f2], q, rfl⟩
          case measure => simp [intOf]; omega
        · have g2 : decide ((300 : Int) < (da.size : Int)) = true := decide_eq_true (by omega)
          obtain rfl := hno (by simp [f2])
          clear hno
          go_wp2_with fail
          go_ret
          exact ⟨rfl, below_drewN Hb0.out q⟩
      · have g1 : decide ((100 : Int) < (ty.size : Int)) = true := decide_eq_true (by omega)
        obtain rfl := hno (by simp [f1])
        clear hno
        go_wp2_with fail
        go_ret
        exact ⟨rfl, below_drewN Hb0.out q⟩
    · have hall20 : (es.take 20).all (fun e => decide (e.ty.size ≤ 100) && decide (e.da.size ≤ 300)) = true := by
        by_cases h20 : m = 20
        · subst h20; exact Hall.out
        · have hmn : m = n := by omega
          have := Hall.out
          rw [List.take_of_length_le (by have := Hl.out; omega)] at this ⊢
          exact this
      have hv : V = (decide (n ≤ 12) && decide (s.size ≤ 100)) := by rw [← HV.out]; unfold smallC; rw [hall20, Hl.out]; simp
      have hex : decide (m < n) = false ∨ (decide (m < n) = true ∧ decide ((m : Int) < 20) = false) := by
        by_cases h0 : m < n
        · exact .inr ⟨decide_eq_true h0, decide_eq_false (by omega)⟩
        · exact .inl (decide_eq_false h0)
      clear hall20 hgo
      by_cases f1 : n ≤ 12
      · have g1 : decide ((n : Int) ≤ 12) = true := decide_eq_true (by omega)
        by_cases f2 : s.size ≤ 100
        · have g2 : decide ((s.size : Int) ≤ 100) = true := decide_eq_true (by omega)
          obtain rfl : V = true := by rw [hv]; simp [f1, f2]
          clear hv
          rcases hex with e1 | ⟨e1, e2⟩ <;>
            (go_wp2_with fail
             go_ret
             exact ⟨rfl, below_drewN Hb0.out q⟩)
        · have g2 : decide ((s.size : Int) ≤ 100) = false := decide_eq_false (by omega)
          obtain rfl : V = false := by rw [hv]; simp [f1, f2]
          clear hv
          rcases hex with e1 | ⟨e1, e2⟩ <;>
            (go_wp2_with fail
             go_ret
             exact ⟨rfl, below_drewN Hb0.out q⟩)
      · have g1 : decide ((n : Int) ≤ 12) = false := decide_eq_false (by omega)
        obtain rfl : V = false := by rw [hv]; simp [f1]
        clear hv
        rcases hex with e1 | ⟨e1, e2⟩ <;>
          (go_wp2_with fail
           go_ret
           exact ⟨rfl, below_drewN Hb0.out q⟩)
end Go.Proofs.Ytfpalamoaflilaa
