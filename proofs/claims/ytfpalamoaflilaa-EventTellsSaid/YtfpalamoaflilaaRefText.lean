/- chronicleref1: texts put and read, by the document's own answer. -/
import Derived.Test.YtfpalamoaflilaaInG
import Derived.Test.YtfpalamoaflilaaRefOut
import Derived.Test.YtfpalamoaflilaaRefInG
namespace Go.Proofs.Ytfpalamoaflilaa
open Go.RowKit
set_option maxHeartbeats 1000000
set_option maxRecDepth 100000
set_option linter.unusedVariables false

theorem refOutText_any (g base : Nat) (bs : List UInt8) (s : ByteArray) (w : World) (h : RoutIs w base g bs 0) (hb : base ≤ w.heap.size) (hs : s.size ≤ 65536) (hl : bs.length ≤ 900000000) :
    Calls Try.prog 47 #[.pointer (some ⟨g, 0, none⟩), .string s] w fun e w' =>
      e = .returned (.tuple #[]) ∧ RoutIs w' base g (bs ++ textL s.data.toList) 0 ∧ Below base w w' := by
  obtain ⟨i0, hi0, hz0, hz1, hz2⟩ := info_parts info_u8
  obtain ⟨v, hB, hbg, hown⟩ := id h
  have hd : decide ((65536 : Int) < (s.size : Int)) = false := by simp; omega
  have hwr : IntKind.u64.wrap (s.size : Int) = (s.size : Int) := IntWalk.u64_in _ (by omega)
  have Hh := Lib.hid h
  clear h hB hown
  go_enter Try.func47, Try.ntmps47
  go_wp2_with fail
  refine (refNum_any g base 4 s.size bs _ Hh.out hb (by omega) (by omega) (by omega)).mono ?_
  rintro e w1 ⟨rfl, ho1, hb1⟩
  obtain ⟨v1, hB1, hbg1, hown1⟩ := ho1
  have hc0 := hB1.cell 0
  have hc1 := hB1.cell 1
  have hf0 := hB1.free 0
  simp at hc0 hc1
  have hne := own_ne_blk hown1 hB1 (by decide)
  have hlen : (bs ++ beBytes 4 s.size).length = bs.length + 4 := by rw [List.length_append, beBytes_length]
  have Hown1 := Lib.hid hown1; have HB1 := Lib.hid hB1; have Hlen := Lib.hid hlen
  have hbz := Nat.le_trans hb hb1.size
  clear hown1 hB1 hlen
  go_wp2_with (at_builtin; refine Lib.wpList_append_own_string _ rfl (.tmp 23) (.tmp 24) _ _ rfl base 5 i0 Try.underlying63 Try.underlying9 hi0 hz0 hz1 hz2 v1 _ _ rfl Hown1.out s rfl (by rw [Hlen.out]; simp only [maxLen]; omega) (by rw [Hlen.out]; omega) hbz ?_; intro v2 w2 hown2 hgrow _; obtain ⟨A2, c2, rfl, hc2⟩ := own_slice hown2; have hB2 := Lib.hid (HB1.out.grown hgrow (Ne.symm hne)); have hd0 := hB2.out.cell 0; have hf2 := hB2.out.free 0; simp at hd0; have Hown2 := Lib.hid hown2; clear hown2)
  go_end0
  have hbel1 : Below base w1 w2 := (Below.refl _ _).grown hgrow hbz (fun q hq => (Hown1.out.lt q hq).1)
  have hgg := own_ne_blk Hown2.out hB2.out (by decide)
  refine ⟨rfl, ⟨_, hB2.out.put 0 _, hbg, ?_⟩, (hb1.trans hbel1).setCell (by exact hbg) _⟩
  have h3 := own_far (a := ⟨g, 0, none⟩) Hown2.out hgg (.slice A2 ((bs ++ beBytes 4 s.size).length + s.size) c2)
  rw [strCells_bytes, ← List.map_append] at h3
  rw [show bs ++ textL s.data.toList = bs ++ beBytes 4 s.size ++ s.data.toList from by unfold textL; rw [← size_list, List.append_assoc]]
  rw [show (bs ++ beBytes 4 s.size ++ s.data.toList).length = (bs ++ beBytes 4 s.size).length + s.size from by rw [List.length_append, ← size_list]]
  rw [show bs.length + (beBytes 4 s.size).length + s.size = (bs ++ beBytes 4 s.size).length + s.size from by rw [List.length_append]]
  exact h3

theorem refInTextG (g base most : Nat) (bs : List UInt8) (x : Int) (w : World) (h : RinIs w base g bs x) (hl : bs.length ≤ 1000000000) (hm : most ≤ 1000000) :
    Calls Try.prog 56 #[.pointer (some ⟨g, 0, none⟩), .int .i64 (most : Int)] w fun e w' =>
      ∃ r, e = .returned (.string ⟨(inText most bs x).1.toArray⟩) ∧ RinIs w' base g r (inText most bs x).2.2 ∧ w.grownBy w' (some g) ∧ r.length ≤ bs.length ∧ ((inText most bs x).2.2 = 0 → r = (inText most bs x).2.1) := by
  have hu := refInNumG g base 4 bs x w h hl (by omega)
  have hnl := inNum_lt 4 bs x
  have hc0 := h.2.cell 0
  simp at hc0
  obtain ⟨a, ha⟩ : ∃ a, inTake 4 bs x = a := ⟨_, rfl⟩
  obtain ⟨n, hn⟩ : ∃ n, inNum 4 bs x = n := ⟨_, rfl⟩
  have hal : a.2.1.length ≤ bs.length := by
    rw [← ha]; unfold inTake; split
    · exact Nat.le_refl _
    · split
      · exact Nat.le_refl _
      · simp only [List.length_drop]; omega
  have hv : inText most bs x = if a.2.2 = 0 ∧ most < n then ([], a.2.1, 2) else inTake n a.2.1 a.2.2 := by unfold inText; rw [ha, hn]
  rw [ha, hn] at hu
  rw [hn] at hnl
  have Hu := Lib.hid hu; have Hv := Lib.hid hv; have Hal := Lib.hid hal
  clear hu hv ha hn h hal
  go_enter Try.func56, Try.ntmps56
  go_wp2_with fail
  refine Hu.out.mono ?_
  rintro e w1 ⟨rfl, h1, hb1⟩
  have hc1 := h1.2.cell 1
  have hd0 := h1.2.cell 0
  have hf0 := h1.2.free 0
  simp at hc1 hd0
  have H1 := Lib.hid h1; clear h1
  by_cases he : a.2.2 = 0
  · have de : (a.2.2 == 0) = true := by simpa using he
    have dne : (a.2.2 != 0) = false := by simpa using he
    have H1z : Hid (RinIs w1 base g a.2.1 0) := Lib.hid (by rw [← he]; exact H1.out)
    by_cases hmn : most < n
    · have hmn' : (most : Int) < (n : Int) := by omega
      have Hv2 : Hid (inText most bs x = ([], a.2.1, 2)) := Lib.hid (by rw [Hv.out, if_pos ⟨he, hmn⟩])
      clear he
      have H1b : Hid (RinIs (w1.setCell ⟨g, 0, none⟩ (.string ⟨bs.toArray⟩)) base g bs 0) := Lib.hid ⟨H1z.out.1, H1z.out.2.put 0 _⟩
      have hbs := grownSetR w1 g 0 (.string ⟨bs.toArray⟩)
      go_wp2_with fail
      refine (refInfailG g base bs 2 _ H1b.out).mono ?_
      rintro e w2 ⟨rfl, h2, hb2⟩
      have H2 := Lib.hid h2; clear h2
      go_wp2_with fail
      go_ret
      rw [Hv2.out]
      exact ⟨bs, rfl, H2.out, grown_two hb1 (grown_two hbs hb2), Nat.le_refl _, fun h0 => by simp at h0⟩
    · have hmn' : (n : Int) ≤ (most : Int) := by omega
      by_cases hlt : n ≤ a.2.1.length
      · have hlt' : (n : Int) ≤ (a.2.1.length : Int) := by omega
        have hsz : (⟨a.2.1.toArray⟩ : ByteArray).size = a.2.1.length := size_mk _
        have Hv2 : Hid (inText most bs x = (a.2.1.take n, a.2.1.drop n, 0)) := Lib.hid (by rw [Hv.out, if_neg (fun h => hmn h.2), he, inTake_ok hlt])
        clear he
        go_wp2_with fail
        go_ret
        rw [Hv2.out]
        have e1 : (⟨a.2.1.toArray⟩ : ByteArray).extract 0 n = ⟨(a.2.1.take n).toArray⟩ := str_to _ _
        have e2 : (⟨a.2.1.toArray⟩ : ByteArray).extract n a.2.1.length = ⟨(a.2.1.drop n).toArray⟩ := by rw [← size_mk a.2.1]; exact str_from _ _
        refine ⟨a.2.1.drop n, by rw [e1]; rfl, ⟨H1z.out.1, ?_⟩, grown_two hb1 (grownSetR _ _ _ _), by rw [List.length_drop]; have := Hal.out; omega, fun _ => rfl⟩
        have := H1z.out.2.put 0 (.string ((⟨a.2.1.toArray⟩ : ByteArray).extract n a.2.1.length))
        rw [e2] at this ⊢
        exact this
      · have hlt' : (a.2.1.length : Int) < (n : Int) := by omega
        have hsz : (⟨a.2.1.toArray⟩ : ByteArray).size = a.2.1.length := size_mk _
        have Hv2 : Hid (inText most bs x = ([], a.2.1, 5)) := Lib.hid (by rw [Hv.out, if_neg (fun h => hmn h.2), he, inTake_short (by omega)])
        clear he
        have H1b : Hid (RinIs (w1.setCell ⟨g, 0, none⟩ (.string ⟨bs.toArray⟩)) base g bs 0) := Lib.hid ⟨H1z.out.1, H1z.out.2.put 0 _⟩
        have hbs := grownSetR w1 g 0 (.string ⟨bs.toArray⟩)
        go_wp2_with fail
        refine (refInfailG g base bs 5 _ H1b.out).mono ?_
        rintro e w2 ⟨rfl, h2, hb2⟩
        have H2 := Lib.hid h2; clear h2
        go_wp2_with fail
        go_ret
        rw [Hv2.out]
        exact ⟨bs, rfl, H2.out, grown_two hb1 (grown_two hbs hb2), Nat.le_refl _, fun h0 => by simp at h0⟩
  · have de : (a.2.2 == 0) = false := by simpa using he
    have dne : (a.2.2 != 0) = true := by simpa using he
    have Hv2 : Hid (inText most bs x = ([], a.2.1, a.2.2)) := Lib.hid (by rw [Hv.out, if_neg (fun h => he h.1), inTake_err he])
    clear he
    go_wp2_with fail
    go_ret
    rw [Hv2.out]
    exact ⟨a.2.1, rfl, H1.out, hb1, Hal.out, fun _ => rfl⟩
end Go.Proofs.Ytfpalamoaflilaa
