/- chapter 10: ChunkOther, walked. -/
import Derived.Test.YtolgjknpifpmbaaLaw10
namespace Go.Proofs.Ytolgjknpifpmbaa
open Go.RowKit
set_option maxHeartbeats 1000000
set_option maxRecDepth 100000
set_option linter.unusedVariables false

/-- what is read of a start, a record and an end -/
theorem other_read (a b c : Int) (x : List UInt8) (ha : 0 ≤ a ∧ a ≤ 999) (hb : 0 ≤ b ∧ b ≤ 999) (hc : 0 ≤ c ∧ c ≤ 9) (hx : x.length < 4000) :
    readRest a (frameL (startB a 5000) ++ frameL (1 :: x) ++ frameL (finishB b c)) [] 33 = if a = b ∧ c = 1 then ([x], 33 + (x.length + 13) + 33, true) else ([x], 33 + (x.length + 13), false) := by
  have hl : (frameL (startB a 5000)).length = 33 := by rw [frameL_length, startB_length]
  have hl2 : (frameL (1 :: x)).length = x.length + 13 := by rw [frameL_length]; simp
  have h1 := step_record (n := a) (l := []) (x := x) (pre := frameL (startB a 5000)) (r := frameL (finishB b c)) (List.append_assoc _ _ _) hx
  rw [hl] at h1
  rw [readRest_more h1]
  have h2 := step_finish (n := a) (n' := b) (c' := c) (l := [x]) (pre := frameL (startB a 5000) ++ frameL (1 :: x)) (r := []) (b := frameL (startB a 5000) ++ frameL (1 :: x) ++ frameL (finishB b c)) (by simp) (by omega) (by simp) (by omega) (by omega)
  rw [List.length_append, hl, hl2] at h2
  by_cases h : a = b ∧ c = 1
  · rw [if_pos h]
    rw [if_pos ⟨h.1, by rw [h.2]; rfl⟩] at h2
    exact readRest_done h2
  · rw [if_neg h]
    rw [if_neg (by rintro ⟨e1, e2⟩; exact h ⟨e1, by rw [← e2]; rfl⟩)] at h2
    exact readRest_none h2

theorem chunkOther_any (a b c : Int) (s : ByteArray) (w : World) (hs : s.size ≤ 9223372036854775807) :
    Calls Try.prog 4 #[.int .i64 a, .int .i64 b, .int .i64 c, .string s] w fun e w' => e = .returned (.bool true) ∧ Below w.heap.size w w' := by
  by_cases t0 : 0 ≤ a
  · skip
    by_cases t1 : a ≤ 999
    · skip
      by_cases t2 : 0 ≤ b
      · skip
        by_cases t3 : b ≤ 999
        · skip
          by_cases t4 : 0 ≤ c
          · skip
            by_cases t5 : c ≤ 9
            · skip
              by_cases t6 : s.size ≤ 1000
              · skip
                have hbg := begin_start a 5000 (frameL (1 :: s.data.toList) ++ frameL (finishB b c)) (by omega) (by decide)
                have hsl := size_list s
                have hrr := other_read a b c s.data.toList (by omega) (by omega) (by omega) (by omega)
                have hst := start_ok a 5000 (by omega) (by decide)
                have hrc := record_ok s.data.toList (by omega)
                have hfn := finish_ok b c (by omega) (by omega)
                obtain ⟨F1, hF1⟩ : ∃ F1, frameL (startB a 5000) = F1 := ⟨_, rfl⟩
                obtain ⟨F2, hF2⟩ : ∃ F2, frameL (1 :: s.data.toList) = F2 := ⟨_, rfl⟩
                obtain ⟨F3, hF3⟩ : ∃ F3, frameL (finishB b c) = F3 := ⟨_, rfl⟩
                have h1 : F1.length = 33 := by rw [← hF1, frameL_length, startB_length]
                have h2 : F2.length = s.size + 13 := by rw [← hF2, frameL_length, hsl]; simp
                have h3 : F3.length = 33 := by rw [← hF3, frameL_length, finishB_length]
                rw [hF1] at hst hbg hrr
                rw [hF2] at hrc hbg hrr
                rw [hF3] at hfn hbg hrr
                have hx : (⟨F1.toArray⟩ ++ ⟨F2.toArray⟩ ++ ⟨F3.toArray⟩ : ByteArray).data.toList = F1 ++ F2 ++ F3 := by simp
                rw [← List.append_assoc] at hbg
                rw [← hx] at hbg hrr
                rw [← hsl] at hrr
                have hm : mkS s.data.toList = s := str_ext (by simp [mkS])
                have Hbg := Lib.hid hbg; have Hrr := Lib.hid hrr; have Hst := Lib.hid hst; have Hrc := Lib.hid hrc; have Hfn := Lib.hid hfn; have Hm := Lib.hid hm
                clear hbg hrr hst hrc hfn hx hF1 hF2 hF3 hsl hm
                go_enter Try.func4, Try.ntmps4
                go_wp2_with fail
                refine (start_any a 5000 _).mono ?_
                rintro e w1 ⟨rfl, hb1⟩
                rw [Hst.out]
                go_wp2_with fail
                refine (record_any _ _ (by omega)).mono ?_
                rintro e w2 ⟨rfl, hb2⟩
                rw [Hrc.out]
                have hb12 := hb1.trans (hb2.mono hb1.size)
                clear hb1 hb2
                go_wp2_with fail
                refine (finish_any b c _).mono ?_
                rintro e w3 ⟨rfl, hb3⟩
                rw [Hfn.out]
                have hb13 := hb12.trans (hb3.mono hb12.size)
                clear hb12 hb3
                go_wp2_with fail
                refine (read_any _ _ (by rw [ByteArray.size_append, ByteArray.size_append, size_mk, size_mk, size_mk]; omega) a 5000 33 Hbg.out).mono ?_
                rintro e w4 ⟨lv, rfl, hown, hb4⟩
                rw [Hrr.out] at hown ⊢
                have hb14 := hb13.trans (hb4.mono hb13.size)
                clear hb13 hb4
                by_cases hd : a = b ∧ c = 1
                · rw [if_pos hd] at hown ⊢
                  obtain ⟨rfl, rfl⟩ := hd
                  simp only [] at hown ⊢
                  obtain ⟨A, cp, rfl, hcp⟩ := own_slice hown
                  obtain ⟨ad, u, hA, had, hu, hcell⟩ := (SlR.own hown).get (k := 0) (by simp)
                  subst hA
                  obtain rfl : u = .string (mkS s.data.toList) := by simpa [strVs] using hu.symm
                  rw [add_zero', Hm.out] at hcell
                  clear hown hu
                  go_wp2_with fail
                  have hX := BlkIs.new w4 31 #[.int .i64 a, .int .i64 5000, .slice (some ad) 1 cp, .int .i64 (33 + ((s.size : Int) + 13) + 33), .bool true]
                  refine (alive10_any _).mono ?_
                  rintro e w5 ⟨rfl, hb5⟩
                  have hX5 := (hX.below hb5 (by simp)).cell
                  have hcl5 : w5.cell? ad = some (.string s) := (hb5.cell (p := ad) (by simp; omega)).trans ((World.cell?_alloc_lt w4 _ ad had).trans hcell)
                  have hb15 := (hb14.alloc hb14.size (.cells #[.int .i64 a, .int .i64 5000, .slice (some ad) 1 cp, .int .i64 (33 + ((s.size : Int) + 13) + 33), .bool true] 31)).trans (hb5.mono (by have := hb14.size; simp; omega))
                  clear hX hcell hb5
                  go_wp2_with fail
                  go_ret
                  exact ⟨rfl, hb15⟩
                · rw [if_neg hd] at hown ⊢
                  simp only [] at hown ⊢
                  obtain ⟨A, cp, rfl, hcp⟩ := own_slice hown
                  obtain ⟨ad, u, hA, had, hu, hcell⟩ := (SlR.own hown).get (k := 0) (by simp)
                  subst hA
                  obtain rfl : u = .string (mkS s.data.toList) := by simpa [strVs] using hu.symm
                  rw [add_zero', Hm.out] at hcell
                  clear hown hu
                  by_cases hab : a = b
                  · have hc1 : c ≠ 1 := fun h => hd ⟨hab, h⟩
                    go_wp2_with fail
                    have hX := BlkIs.new w4 31 #[.int .i64 b, .int .i64 5000, .slice (some ad) 1 cp, .int .i64 (33 + ((s.size : Int) + 13)), .bool false]
                    refine (alive10_any _).mono ?_
                    rintro e w5 ⟨rfl, hb5⟩
                    have hX5 := (hX.below hb5 (by simp)).cell
                    have hcl5 : w5.cell? ad = some (.string s) := (hb5.cell (p := ad) (by simp; omega)).trans ((World.cell?_alloc_lt w4 _ ad had).trans hcell)
                    have hb15 := (hb14.alloc hb14.size (.cells #[.int .i64 b, .int .i64 5000, .slice (some ad) 1 cp, .int .i64 (33 + ((s.size : Int) + 13)), .bool false] 31)).trans (hb5.mono (by have := hb14.size; simp; omega))
                    clear hX hcell hb5
                    go_wp2_with fail
                    go_ret
                    exact ⟨rfl, hb15⟩
                  · go_wp2_with fail
                    have hX := BlkIs.new w4 31 #[.int .i64 a, .int .i64 5000, .slice (some ad) 1 cp, .int .i64 (33 + ((s.size : Int) + 13)), .bool false]
                    refine (alive10_any _).mono ?_
                    rintro e w5 ⟨rfl, hb5⟩
                    have hX5 := (hX.below hb5 (by simp)).cell
                    have hcl5 : w5.cell? ad = some (.string s) := (hb5.cell (p := ad) (by simp; omega)).trans ((World.cell?_alloc_lt w4 _ ad had).trans hcell)
                    have hb15 := (hb14.alloc hb14.size (.cells #[.int .i64 a, .int .i64 5000, .slice (some ad) 1 cp, .int .i64 (33 + ((s.size : Int) + 13)), .bool false] 31)).trans (hb5.mono (by have := hb14.size; simp; omega))
                    clear hX hcell hb5
                    go_wp2_with fail
                    go_ret
                    exact ⟨rfl, hb15⟩
              · have n6 : 1000 < (s.size : Int) := by omega
                clear t6
                go_enter Try.func4, Try.ntmps4
                go_wp2_with fail
                refine (alive10_any _).mono ?_
                rintro e w1 ⟨rfl, hb1⟩
                go_wp2_with fail
                go_ret
                exact ⟨rfl, hb1⟩
            · have n5 : 9 < c := by omega
              clear t5
              go_enter Try.func4, Try.ntmps4
              go_wp2_with fail
              refine (alive10_any _).mono ?_
              rintro e w1 ⟨rfl, hb1⟩
              go_wp2_with fail
              go_ret
              exact ⟨rfl, hb1⟩
          · have n4 : c < 0 := by omega
            clear t4
            go_enter Try.func4, Try.ntmps4
            go_wp2_with fail
            refine (alive10_any _).mono ?_
            rintro e w1 ⟨rfl, hb1⟩
            go_wp2_with fail
            go_ret
            exact ⟨rfl, hb1⟩
        · have n3 : 999 < b := by omega
          clear t3
          go_enter Try.func4, Try.ntmps4
          go_wp2_with fail
          refine (alive10_any _).mono ?_
          rintro e w1 ⟨rfl, hb1⟩
          go_wp2_with fail
          go_ret
          exact ⟨rfl, hb1⟩
      · have n2 : b < 0 := by omega
        clear t2
        go_enter Try.func4, Try.ntmps4
        go_wp2_with fail
        refine (alive10_any _).mono ?_
        rintro e w1 ⟨rfl, hb1⟩
        go_wp2_with fail
        go_ret
        exact ⟨rfl, hb1⟩
    · have n1 : 999 < a := by omega
      clear t1
      go_enter Try.func4, Try.ntmps4
      go_wp2_with fail
      refine (alive10_any _).mono ?_
      rintro e w1 ⟨rfl, hb1⟩
      go_wp2_with fail
      go_ret
      exact ⟨rfl, hb1⟩
  · have n0 : a < 0 := by omega
    clear t0
    go_enter Try.func4, Try.ntmps4
    go_wp2_with fail
    refine (alive10_any _).mono ?_
    rintro e w1 ⟨rfl, hb1⟩
    go_wp2_with fail
    go_ret
    exact ⟨rfl, hb1⟩
end Go.Proofs.Ytolgjknpifpmbaa
