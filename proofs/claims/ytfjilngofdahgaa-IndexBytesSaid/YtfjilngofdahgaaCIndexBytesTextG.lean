/- codec.In: texts read, and nothing else of memory is changed. -/
import Derived.Test.YtfjilngofdahgaaCIndexBytesInG

namespace Go.Proofs.Ytfjilngofdahgaa
open Go.RowKit
set_option maxHeartbeats 1000000
set_option maxRecDepth 100000
set_option linter.unusedVariables false

theorem inU32G (g base : Nat) (bs : List UInt8) (x : Int) (w : World) (h : InIs w base g bs x) (hl : bs.length ≤ 1000000000) :
    Calls Try.prog 92 #[.pointer (some ⟨g, 0, none⟩)] w fun e w' =>
      e = .returned (.int .i64 (inNum 4 bs x : Nat)) ∧ InIs w' base g (inTake 4 bs x).2.1 (inTake 4 bs x).2.2 ∧ w.grownBy w' (some g) := by
  have hlt := inNum_lt 4 bs x
  have hle := inTake_length 4 bs x
  unfold inNum at hlt ⊢
  have ht := takeG g base 4 bs x w h hl (by omega)
  generalize inTake 4 bs x = q at hlt hle ht ⊢
  have Ht := Lib.hid ht; clear ht h
  go_enter Try.func92, Try.ntmps92
  go_wp2_with fail
  refine Ht.out.mono ?_
  rintro e w1 ⟨rfl, h1, hb1⟩
  have H1 := Lib.hid h1; clear h1
  go_wp2_with fail
  refine (low_any _ _ (by rw [size_mk]; omega)).mono ?_
  rintro e w2 ⟨rfl, hb2⟩
  go_wp2_with fail
  go_ret
  exact ⟨rfl, H1.out.keptBelow hb2, grown_two hb1 (grown_below hb2)⟩

theorem inTextG (g base most : Nat) (bs : List UInt8) (x : Int) (w : World) (h : InIs w base g bs x) (hl : bs.length ≤ 1000000000) (hm : most ≤ 1000000) :
    Calls Try.prog 85 #[.pointer (some ⟨g, 0, none⟩), .int .i64 (most : Int)] w fun e w' =>
      e = .returned (.string ⟨(inText most bs x).1.toArray⟩) ∧ InIs w' base g (inText most bs x).2.1 (inText most bs x).2.2 ∧ w.grownBy w' (some g) := by
  have hu := inU32G g base bs x w h hl
  have hnl := inNum_lt 4 bs x
  have hbw : base ≤ w.heap.size := Nat.le_trans h.1 (Nat.le_of_lt h.lt)
  obtain ⟨a, ha⟩ : ∃ a, inTake 4 bs x = a := ⟨_, rfl⟩
  obtain ⟨n, hn⟩ : ∃ n, inNum 4 bs x = n := ⟨_, rfl⟩
  have hal : a.2.1.length ≤ 1000000000 := by
    rw [← ha]; unfold inTake; split
    · exact hl
    · split
      · exact hl
      · simp only [List.length_drop]; omega
  have hv : inText most bs x = if a.2.2 = 0 ∧ most < n then ([], a.2.1, 2) else inTake n a.2.1 a.2.2 := by unfold inText; rw [ha, hn]
  rw [ha, hn] at hu
  rw [hn] at hnl
  have Hu := Lib.hid hu; have Hv := Lib.hid hv
  clear hu hv ha hn h
  go_enter Try.func85, Try.ntmps85
  go_wp2_with fail
  refine Hu.out.mono ?_
  rintro e w1 ⟨rfl, h1, hb1⟩
  have hc1 := h1.2.cell 1
  simp at hc1
  have H1 := Lib.hid h1; clear h1
  by_cases he : a.2.2 = 0
  · have de : (a.2.2 == 0) = true := by simpa using he
    by_cases hmn : most < n
    · have hmn' : (most : Int) < (n : Int) := by omega
      have Hv2 : Hid (inText most bs x = ([], a.2.1, 2)) := Lib.hid (by rw [Hv.out, if_pos ⟨he, hmn⟩])
      have H1b : Hid (InIs w1 base g a.2.1 0) := Lib.hid (by rw [← he]; exact H1.out)
      clear he
      go_wp2_with fail
      refine (infail_at g base a.2.1 2 _ H1b.out).mono ?_
      rintro e w2 ⟨rfl, rfl⟩
      have H2 : Hid (InIs (w1.setCell ⟨g, 1, none⟩ (.int .i64 2)) base g a.2.1 2) := Lib.hid ⟨H1b.out.1, H1b.out.2.put 1 _⟩
      have hb2 := grown_set w1 g 1 (.int .i64 2)
      go_wp2_with fail
      have ht := takeG g base n a.2.1 2 _ H2.out hal (by omega)
      rw [inTake_err (by decide)] at ht
      refine ht.mono ?_
      rintro e w3 ⟨rfl, h3, hb3⟩
      have H3 := Lib.hid h3; clear h3 ht
      go_wp2_with fail
      refine (clone_in _ _ (by rw [size_mk]; decide)).mono ?_
      rintro e w4 ⟨rfl, hb4⟩
      go_wp2_with fail
      go_ret
      rw [Hv2.out]
      exact ⟨rfl, H3.out.keptBelow hb4, grown_two hb1 (grown_two hb2 (grown_two hb3 (grown_below hb4)))⟩
    · have hmn' : (n : Int) ≤ (most : Int) := by omega
      have Hv2 : Hid (inText most bs x = inTake n a.2.1 a.2.2) := Lib.hid (by rw [Hv.out, if_neg (fun h => hmn h.2)])
      clear he
      go_wp2_with fail
      have ht := takeG g base n a.2.1 a.2.2 w1 H1.out hal (by omega)
      have hql : (inTake n a.2.1 a.2.2).1.length ≤ 1000000000 := by have := inTake_length n a.2.1 a.2.2; omega
      generalize inTake n a.2.1 a.2.2 = q at ht Hv2 hql
      refine ht.mono ?_
      rintro e w3 ⟨rfl, h3, hb3⟩
      have H3 := Lib.hid h3; clear h3 ht
      go_wp2_with fail
      refine (clone_in _ _ (by rw [size_mk]; exact hql)).mono ?_
      rintro e w4 ⟨rfl, hb4⟩
      go_wp2_with fail
      go_ret
      rw [Hv2.out]
      exact ⟨rfl, H3.out.keptBelow hb4, grown_two hb1 (grown_two hb3 (grown_below hb4))⟩
  · have de : (a.2.2 == 0) = false := by simpa using he
    have Hv2 : Hid (inText most bs x = ([], a.2.1, a.2.2)) := Lib.hid (by rw [Hv.out, if_neg (fun h => he h.1), inTake_err he])
    have He := Lib.hid he
    clear he
    go_wp2_with fail
    have ht := takeG g base n a.2.1 a.2.2 w1 H1.out hal (by omega)
    rw [inTake_err He.out] at ht
    refine ht.mono ?_
    rintro e w3 ⟨rfl, h3, hb3⟩
    have H3 := Lib.hid h3; clear h3 ht
    go_wp2_with fail
    refine (clone_in _ _ (by rw [size_mk]; decide)).mono ?_
    rintro e w4 ⟨rfl, hb4⟩
    go_wp2_with fail
    go_ret
    rw [Hv2.out]
    exact ⟨rfl, H3.out.keptBelow hb4, grown_two hb1 (grown_two hb3 (grown_below hb4))⟩

theorem inErrG (g base : Nat) (bs : List UInt8) (x : Int) (w : World) (h : InIs w base g bs x) :
    Calls Try.prog 89 #[.pointer (some ⟨g, 0, none⟩)] w fun e w' => e = .returned (.int .i64 x) ∧ w = w' := inErr_any g base bs x w h
end Go.Proofs.Ytfjilngofdahgaa
