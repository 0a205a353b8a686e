/- chapter 10: alive, walked. -/
import Derived.Test.YtolgjknpifpmbaaChunkRead
import Derived.Test.YtolgjknpifpmbaaChunkLaw2
namespace Go.Proofs.Ytolgjknpifpmbaa
open Go.RowKit
set_option maxHeartbeats 1000000
set_option maxRecDepth 100000
set_option linter.unusedVariables false

theorem alive10_read : readRest 3 (frameL (startB 3 500) ++ frameL [1, 97]) [] 33 = ([[97]], 47, false) := by
  have h := rest_kept 3 [[97]] (frameL (startB 3 500)) 47 1 (by simp) (by simp) (by rw [frameL_length, startB_length]; simp [endsL, recs, layAll, frameL_length]) (by simp)
  have hl : (frameL (startB 3 500)).length = 33 := by rw [frameL_length, startB_length]
  have hr : layAll (recs [[97]]) = frameL [1, 97] := by simp [layAll, recs]
  rw [hl, hr, List.take_of_length_le (by rw [List.length_append, hl, frameL_length]; decide)] at h
  rw [h, show endsL (recs [[97]]) 1 = 14 from by show (layAll (recs [[97]])).length = 14; rw [hr, frameL_length]; rfl]
  rfl
theorem start_ok (n s : Int) (hn : 0 ≤ n ∧ n ≤ 999999) (hs : 100 ≤ s ∧ s ≤ 1000000) : startL n s = (frameL (startB n s), 0) := by unfold startL; rw [if_pos ⟨hn, hs⟩]
theorem finish_ok (n s : Int) (hn : 0 ≤ n ∧ n ≤ 999999) (hs : 0 ≤ s) : finishL n s = (frameL (finishB n s), 0) := by unfold finishL; rw [if_pos ⟨hn, hs⟩]
theorem record_ok (x : List UInt8) (hx : x.length < 4000) : putL (1 :: x) = (frameL (1 :: x), 0) := putL_ok' (by simp; omega)

theorem add_zero' (a : Addr) : a.add 0 = a := by unfold Addr.add; split <;> simp_all

theorem alive10_any (w : World) : Calls Try.prog 8 #[] w fun e w' => e = .returned (.bool true) ∧ Below w.heap.size w w' := by
  have hbg := begin_start 3 500 (frameL [1, 97]) (by decide) (by decide)
  have hrr := alive10_read
  have hs := start_ok 3 500 (by decide) (by decide)
  have hp := record_ok [97] (by decide)
  obtain ⟨F1, hF1⟩ : ∃ F1, frameL (startB 3 500) = F1 := ⟨_, rfl⟩
  obtain ⟨F2, hF2⟩ : ∃ F2, frameL [1, 97] = F2 := ⟨_, rfl⟩
  have h1 : F1.length = 33 := by rw [← hF1, frameL_length, startB_length]
  have h2 : F2.length = 14 := by rw [← hF2, frameL_length]; rfl
  rw [hF1] at hs hbg hrr
  rw [hF2] at hp hbg hrr
  have hx : (⟨F1.toArray⟩ ++ ⟨F2.toArray⟩ : ByteArray).data.toList = F1 ++ F2 := by simp
  rw [← hx] at hbg hrr
  have Hbg := Lib.hid hbg; have Hrr := Lib.hid hrr; have Hs := Lib.hid hs; have Hp := Lib.hid hp
  clear hbg hrr hs hp hx hF1 hF2
  go_enter Try.func8, Try.ntmps8
  go_wp2_with fail
  refine (start_any 3 500 _).mono ?_
  rintro e w1 ⟨rfl, hb1⟩
  rw [Hs.out]
  go_wp2_with fail
  refine (record_any _ _ (by decide)).mono ?_
  rintro e w2 ⟨rfl, hb2⟩
  rw [show putL (1 :: (⟨#[97]⟩ : ByteArray).data.toList) = (F2, 0) from Hp.out]
  have hb12 := hb1.trans (hb2.mono hb1.size)
  clear hb1 hb2
  go_wp2_with fail
  refine (read_any _ _ (by rw [ByteArray.size_append, size_mk, size_mk]; omega) 3 500 33 Hbg.out).mono ?_
  rintro e w3 ⟨lv, rfl, hown, hb3⟩
  rw [Hrr.out] at hown ⊢
  simp only [] at hown ⊢
  obtain ⟨A, cp, rfl, hcp⟩ := own_slice hown
  obtain ⟨ad, u, hA, had, hu, hcell⟩ := (SlR.own hown).get (k := 0) (by simp)
  subst hA
  obtain rfl : u = .string (mkS [97]) := by simpa [strVs] using hu.symm
  have hb13 := hb12.trans (hb3.mono hb12.size)
  have hcell0 : w3.cell? ad = some (.string (mkS [97])) := by rw [← add_zero' ad]; exact hcell
  have ht : (mkS [97]).toList = [97] := by rw [ByteArray.toList_eq]; rfl
  clear hown hu hb3 hb12 hcell
  go_wp2_with fail
  go_ret
  exact ⟨rfl, hb13.alloc hb13.size _⟩
end Go.Proofs.Ytolgjknpifpmbaa
