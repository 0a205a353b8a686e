/- codec: one byte and texts, put and read. -/
import Derived.Test.YtfjilngofdahgaaCIndexBytesOut
import Derived.Test.YtfjilngofdahgaaCIndexBytesInEnd
import Derived.Lib.AppendStr

namespace Go.Proofs.Ytfjilngofdahgaa
open Go.RowKit
set_option maxHeartbeats 1000000
set_option maxRecDepth 100000
set_option linter.unusedVariables false

theorem u8_ok (g base n : Nat) (bs : List UInt8) (w : World) (h : OutIs w base g bs 0) (hb : base ≤ w.heap.size) (hl : bs.length + 1 ≤ 1000000000) (hn : n < 256) :
    Calls Try.prog 51 #[.pointer (some ⟨g, 0, none⟩), .int .i64 (n : Int)] w fun e w' =>
      e = .returned (.pointer (some ⟨g, 0, none⟩)) ∧ OutIs w' base g (bs ++ beBytes 1 n) 0 ∧ Below base w w' := by
  go_enter Try.func51, Try.ntmps51
  go_wp2_with fail
  refine (small_ok g base 1 n bs _ h hb hl (by omega) (by omega)).mono ?_
  rintro e w' ⟨rfl, ho, hbel⟩
  go_wp2
  go_ret
  exact ⟨rfl, ho, hbel⟩

theorem strCells_bytes (s : ByteArray) : Lib.strCells s = s.data.toList.map byteV := rfl

/-- a text's bytes behind its length -/
def textL (s : List UInt8) : List UInt8 := beBytes 4 s.length ++ s
theorem textL_length (s : List UInt8) : (textL s).length = s.length + 4 := by unfold textL; rw [List.length_append, beBytes_length]; omega

theorem outText_ok (g base : Nat) (bs : List UInt8) (s : ByteArray) (w : World) (h : OutIs w base g bs 0) (hb : base ≤ w.heap.size) (hs : s.size ≤ 65536) (hl : bs.length ≤ 900000000) :
    Calls Try.prog 53 #[.pointer (some ⟨g, 0, none⟩), .string s] w fun e w' =>
      e = .returned (.pointer (some ⟨g, 0, none⟩)) ∧ OutIs w' base g (bs ++ textL s.data.toList) 0 ∧ Below base w w' := by
  obtain ⟨i0, hi0, hz0, hz1, hz2⟩ := info_parts info_u8
  obtain ⟨v, hB, hbg, hown⟩ := id h
  have hd : decide ((65536 : Int) < (s.size : Int)) = false := by simp; omega
  have hwr : IntKind.u64.wrap (s.size : Int) = (s.size : Int) := IntWalk.u64_in _ (by omega)
  have hfn := ofail_no g v 2 w hB
  have Hfn := Lib.hid hfn; have Hh := Lib.hid h
  clear h hB hown hfn
  go_enter Try.func53, Try.ntmps53
  go_wp2_with fail
  refine Hfn.out.mono ?_
  rintro e w' ⟨rfl, rfl⟩
  go_wp2_with fail
  refine (high_any g base 4 s.size bs _ Hh.out hb (by omega) (by omega) (by omega)).mono ?_
  rintro e w1 ⟨rfl, ho1, hb1⟩
  obtain ⟨v1, hB1, hbg1, hown1⟩ := ho1
  have hc0 := hB1.cell 0
  have hf0 := hB1.free 0
  simp at hc0
  have hne := own_ne_blk hown1 hB1 (by decide)
  have hlen : (bs ++ beBytes 4 s.size).length = bs.length + 4 := by rw [List.length_append, beBytes_length]
  have Hown1 := Lib.hid hown1; have HB1 := Lib.hid hB1; have Hlen := Lib.hid hlen
  have hbz := Nat.le_trans hb hb1.size
  clear hown1 hB1 hlen
  go_wp2_with (at_builtin; refine Lib.wpList_append_own_string _ rfl (.tmp 24) (.tmp 25) _ _ rfl base 5 i0 Try.underlying78 Try.underlying9 hi0 hz0 hz1 hz2 v1 _ _ rfl Hown1.out s rfl (by rw [Hlen.out]; simp only [maxLen]; omega) (by rw [Hlen.out]; omega) hbz ?_; intro v2 w2 hown2 hgrow _; obtain ⟨A2, c2, rfl, hc2⟩ := own_slice hown2; have hB2 := Lib.hid (HB1.out.grown hgrow (Ne.symm hne)); have hd0 := hB2.out.cell 0; have hf2 := hB2.out.free 0; simp at hd0; have Hown2 := Lib.hid hown2; clear hown2)
  go_ret
  have hbel1 : Below base w1 w2 := (Below.refl _ _).grown hgrow hbz (fun q hq => (Hown1.out.lt q hq).1)
  have hgg := own_ne_blk Hown2.out hB2.out (by decide)
  refine ⟨rfl, ⟨_, hB2.out.put 0 _, hbg, ?_⟩, (hb1.trans hbel1).setCell (by exact hbg) _⟩
  have h3 := own_far (a := ⟨g, 0, none⟩) Hown2.out hgg (.slice A2 ((bs ++ beBytes 4 s.size).length + s.size) c2)
  rw [strCells_bytes, ← List.map_append] at h3
  rw [show bs ++ textL s.data.toList = bs ++ beBytes 4 s.size ++ s.data.toList from by unfold textL; rw [← size_list, List.append_assoc]]
  rw [show (bs ++ beBytes 4 s.size ++ s.data.toList).length = (bs ++ beBytes 4 s.size).length + s.size from by rw [List.length_append, ← size_list]]
  rw [show bs.length + (beBytes 4 s.size).length + s.size = (bs ++ beBytes 4 s.size).length + s.size from by rw [List.length_append]]
  exact h3

/-! ### reading -/
theorem inU8_any (g base : Nat) (bs : List UInt8) (x : Int) (w : World) (h : InIs w base g bs x) (hl : bs.length ≤ 1000000000) :
    Calls Try.prog 66 #[.pointer (some ⟨g, 0, none⟩)] w fun e w' =>
      e = .returned (.int .i64 (inNum 1 bs x : Nat)) ∧ InIs w' base g (inTake 1 bs x).2.1 (inTake 1 bs x).2.2 ∧ Below base w w' := by
  have hlt := inNum_lt 1 bs x
  have hle := inTake_length 1 bs x
  unfold inNum at hlt ⊢
  have hbw : base ≤ w.heap.size := Nat.le_trans h.1 (Nat.le_of_lt h.lt)
  have ht := take_any g base 1 bs x w h hl (by omega)
  generalize inTake 1 bs x = q at hlt hle ht ⊢
  have Ht := Lib.hid ht; clear ht h
  go_enter Try.func66, Try.ntmps66
  go_wp2_with fail
  refine Ht.out.mono ?_
  rintro e w1 ⟨rfl, h1, hb1⟩
  have H1 := Lib.hid h1; clear h1
  go_wp2_with fail
  refine (low_any _ _ (by rw [size_mk]; omega)).mono ?_
  rintro e w2 ⟨rfl, hb2⟩
  go_wp2_with fail
  go_ret
  exact ⟨rfl, H1.out.below hb2 H1.out.lt, hb1.trans (hb2.mono (Nat.le_trans hbw hb1.size))⟩

/-- what Text reads: the text, what is left, the error -/
def inText (most : Nat) (bs : List UInt8) (e : Int) : List UInt8 × List UInt8 × Int :=
  if (inTake 4 bs e).2.2 = 0 ∧ most < inNum 4 bs e then ([], (inTake 4 bs e).2.1, 2) else inTake (inNum 4 bs e) (inTake 4 bs e).2.1 (inTake 4 bs e).2.2
theorem inTextC_any (g base most : Nat) (bs : List UInt8) (x : Int) (w : World) (h : InIs w base g bs x) (hl : bs.length ≤ 1000000000) (hm : most ≤ 1000000) :
    Calls Try.prog 85 #[.pointer (some ⟨g, 0, none⟩), .int .i64 (most : Int)] w fun e w' =>
      e = .returned (.string ⟨(inText most bs x).1.toArray⟩) ∧ InIs w' base g (inText most bs x).2.1 (inText most bs x).2.2 ∧ Below base w w' := by
  have hu := inU32_any g base bs x w h hl
  have hnl := inNum_lt 4 bs x
  have hbw : base ≤ w.heap.size := Nat.le_trans h.1 (Nat.le_of_lt h.lt)
  obtain ⟨a, ha⟩ : ∃ a, inTake 4 bs x = a := ⟨_, rfl⟩
  obtain ⟨n, hn⟩ : ∃ n, inNum 4 bs x = n := ⟨_, rfl⟩
  have hal : a.2.1.length ≤ 1000000000 := by
    rw [← ha]; unfold inTake; split
    · exact hl
    · split
      · exact hl
      · simp only [List.length_drop]; omega
  have hv : inText most bs x = if a.2.2 = 0 ∧ most < n then ([], a.2.1, 2) else inTake n a.2.1 a.2.2 := by unfold inText; rw [ha, hn]
  rw [ha, hn] at hu
  rw [hn] at hnl
  have Hu := Lib.hid hu; have Hv := Lib.hid hv
  clear hu hv ha hn h
  go_enter Try.func85, Try.ntmps85
  go_wp2_with fail
  refine Hu.out.mono ?_
  rintro e w1 ⟨rfl, h1, hb1⟩
  have hc1 := h1.2.cell 1
  simp at hc1
  have H1 := Lib.hid h1; clear h1
  by_cases he : a.2.2 = 0
  · have de : (a.2.2 == 0) = true := by simpa using he
    by_cases hmn : most < n
    · have hmn' : (most : Int) < (n : Int) := by omega
      have Hv2 : Hid (inText most bs x = ([], a.2.1, 2)) := Lib.hid (by rw [Hv.out, if_pos ⟨he, hmn⟩])
      have H1b : Hid (InIs w1 base g a.2.1 0) := Lib.hid (by rw [← he]; exact H1.out)
      clear he
      go_wp2_with fail
      refine (infail_ok g base a.2.1 2 _ H1b.out).mono ?_
      rintro e w2 ⟨rfl, h2, hb2⟩
      have H2 := Lib.hid h2; clear h2
      go_wp2_with fail
      have ht := take_any g base n a.2.1 2 w2 H2.out hal (by omega)
      rw [inTake_err (by decide)] at ht
      refine ht.mono ?_
      rintro e w3 ⟨rfl, h3, hb3⟩
      have H3 := Lib.hid h3; clear h3 ht
      go_wp2_with fail
      refine (clone_in _ _ (by rw [size_mk]; decide)).mono ?_
      rintro e w4 ⟨rfl, hb4⟩
      go_wp2_with fail
      go_ret
      rw [Hv2.out]
      have h13 := hb1.trans (hb2.trans hb3)
      exact ⟨rfl, H3.out.below hb4 H3.out.lt, h13.trans (hb4.mono (Nat.le_trans hbw h13.size))⟩
    · have hmn' : (n : Int) ≤ (most : Int) := by omega
      have Hv2 : Hid (inText most bs x = inTake n a.2.1 a.2.2) := Lib.hid (by rw [Hv.out, if_neg (fun h => hmn h.2)])
      clear he
      go_wp2_with fail
      have ht := take_any g base n a.2.1 a.2.2 w1 H1.out hal (by omega)
      have hql : (inTake n a.2.1 a.2.2).1.length ≤ 1000000000 := by have := inTake_length n a.2.1 a.2.2; omega
      generalize inTake n a.2.1 a.2.2 = q at ht Hv2 hql
      refine ht.mono ?_
      rintro e w3 ⟨rfl, h3, hb3⟩
      have H3 := Lib.hid h3; clear h3 ht
      go_wp2_with fail
      refine (clone_in _ _ (by rw [size_mk]; exact hql)).mono ?_
      rintro e w4 ⟨rfl, hb4⟩
      go_wp2_with fail
      go_ret
      rw [Hv2.out]
      have h13 := hb1.trans hb3
      exact ⟨rfl, H3.out.below hb4 H3.out.lt, h13.trans (hb4.mono (Nat.le_trans hbw h13.size))⟩
  · have de : (a.2.2 == 0) = false := by simpa using he
    have Hv2 : Hid (inText most bs x = ([], a.2.1, a.2.2)) := Lib.hid (by rw [Hv.out, if_neg (fun h => he h.1), inTake_err he])
    have He := Lib.hid he
    clear he
    go_wp2_with fail
    have ht := take_any g base n a.2.1 a.2.2 w1 H1.out hal (by omega)
    rw [inTake_err He.out] at ht
    refine ht.mono ?_
    rintro e w3 ⟨rfl, h3, hb3⟩
    have H3 := Lib.hid h3; clear h3 ht
    go_wp2_with fail
    refine (clone_in _ _ (by rw [size_mk]; decide)).mono ?_
    rintro e w4 ⟨rfl, hb4⟩
    go_wp2_with fail
    go_ret
    rw [Hv2.out]
    have h13 := hb1.trans hb3
    exact ⟨rfl, H3.out.below hb4 H3.out.lt, h13.trans (hb4.mono (Nat.le_trans hbw h13.size))⟩
end Go.Proofs.Ytfjilngofdahgaa
