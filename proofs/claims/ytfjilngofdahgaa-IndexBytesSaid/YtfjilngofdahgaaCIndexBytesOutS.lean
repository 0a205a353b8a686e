/- codec.Out: what each put leaves as it was: all that is neither an Out nor a row of bytes. -/
import Derived.Test.YtfjilngofdahgaaCIndexBytesText
import Derived.Test.YtfjilngofdahgaaCIndexBytesNum64
import Derived.Test.YtfjilngofdahgaaCIndexBytesNum64Law
import Derived.IntWalk

namespace Go.Proofs.Ytfjilngofdahgaa
open Go.RowKit
set_option maxHeartbeats 1000000
set_option linter.unusedVariables false

/-- what a put does: below base nothing turns, and no block of another type -/
structure OutStep (base : Nat) (w w' : World) : Prop where
  bel : Below base w w'
  typ : ∀ (b : Nat) (cs : Array Value) (t : TypeId) (fr : Nat × Nat), w.heap[b]? = some (.cells cs t fr) → t ≠ 80 → t ≠ 5 → w'.heap[b]? = w.heap[b]?
theorem OutStep.refl (base : Nat) (w : World) : OutStep base w w := ⟨Below.refl _ _, fun _ _ _ _ _ _ _ => rfl⟩
theorem OutStep.trans {base : Nat} {a b c : World} (h : OutStep base a b) (h2 : OutStep base b c) : OutStep base a c :=
  ⟨h.bel.trans h2.bel, fun q cs t fr hq n1 n2 => by have h3 := h.typ q cs t fr hq n1 n2; exact (h2.typ q cs t fr (h3.trans hq) n1 n2).trans h3⟩
theorem OutStep.of_below {base : Nat} {w w' : World} (h : Below w.heap.size w w') (hb : base ≤ w.heap.size) : OutStep base w w' :=
  ⟨h.mono hb, fun q cs t fr hq _ _ => h.block q (Array.getElem?_eq_some_iff.1 hq).1⟩
theorem OutStep.row {base n : Nat} {w w' : World} {v : Value} {xs : List Value} (ho : w.ownsRow base 5 1 v n xs) (hg : w.grownBy w' v.ownBlock) (hb : base ≤ w.heap.size) : OutStep base w w' :=
  ⟨(Below.refl _ _).grown hg hb (fun q hq => (ho.lt q hq).1), fun q cs t fr hq _ n2 => hg.block q (Array.getElem?_eq_some_iff.1 hq).1 (fun e => by
    rcases ho.2 with ⟨rfl, _⟩ | ⟨g', cap, cur, rfl, _, hh, _⟩
    · simp [Value.ownBlock] at e
    · simp [Value.ownBlock] at e
      subst e
      rw [hq] at hh
      injection hh with hh
      injection hh with _ ht
      exact n2 ht)⟩
theorem OutStep.put {base g i : Nat} {w : World} {cs0 : Array Value} (hB : BlkIs w g 80 cs0) (hg : base ≤ g) (u : Value) : OutStep base w (w.setCell ⟨g, i, none⟩ u) :=
  ⟨(Below.refl _ _).setCell (p := ⟨g, i, none⟩) (by exact hg) u, fun q cs t fr hq n1 _ => Below.heap_setCell w ⟨g, i, none⟩ u q (fun e => by
    have e : q = g := e
    subst e
    unfold BlkIs at hB
    rw [hq] at hB
    injection hB with hB
    injection hB with _ ht
    exact n1 ht)⟩
theorem BlkIs.typ {base g : Nat} {w w' : World} {t : TypeId} {cs : Array Value} (h : BlkIs w g t cs) (hs : OutStep base w w') (n1 : t ≠ 80) (n2 : t ≠ 5) : BlkIs w' g t cs := (hs.typ g cs t (0, 0) h n1 n2).trans h

theorem OutIs.under {w w' : World} {base g B : Nat} {bs : List UInt8} {e : Int} (h : OutIs w base g bs e) (hb : Below B w w') (hB : w.heap.size ≤ B) : OutIs w' base g bs e := by
  obtain ⟨v, h1, h2, h3⟩ := h
  exact ⟨v, h1.below hb (Nat.lt_of_lt_of_le h1.lt hB), h2, own_below h3 hb (fun q hq => Nat.lt_of_lt_of_le (h3.lt q hq).2 hB)⟩
theorem OutIs.drewd {w : World} {base g : Nat} {bs : List UInt8} {e : Int} (h : OutIs w base g bs e) : OutIs w.drew base g bs e := h.under (below_drewN (Below.refl w.heap.size w) 1) (Nat.le_refl _)

theorem high_t (g base k n : Nat) (bs : List UInt8) (w : World) (h : OutIs w base g bs 0) (hb : base ≤ w.heap.size) (hl : bs.length + k ≤ 1000000000) (hk : k ≤ 8) (hn : n < 18446744073709551616) :
    Calls Try.prog 75 #[.pointer (some ⟨g, 0, none⟩), .int .u64 (n : Int), .int .i64 (k : Int)] w fun e w' =>
      e = .returned (.pointer (some ⟨g, 0, none⟩)) ∧ OutIs w' base g (bs ++ beBytes k n) 0 ∧ OutStep base w w' := by
  obtain ⟨i0, hi0, hz0, hz1, hz2⟩ := info_parts info_u8
  go_enter Try.func75, Try.ntmps75
  go_wp2
  go_loopw [7] (fun i wr => ∃ m : Nat, m ≤ k ∧ i = .int .i64 ((m : Int) - 1) ∧ OutIs wr base g (bs ++ (beBytes k n).take (k - m)) 0 ∧ OutStep base w wr) (fun i _ => (intOf i + 1).toNat)
  case atStart => exact ⟨k, Nat.le_refl _, rfl, by simpa using h, OutStep.refl _ _⟩
  case round =>
    obtain ⟨m, hm, rfl, ho, hbel⟩ := hrel
    cases m with
    | succ m =>
      rw [show ((m + 1 : Nat) : Int) - 1 = (m : Int) from by omega]
      have hln : (bs ++ (beBytes k n).take (k - (m + 1))).length ≤ 1000000000 - 1 := by rw [List.length_append, List.length_take, beBytes_length]; omega
      have hstep : bs ++ (beBytes k n).take (k - m) = bs ++ (beBytes k n).take (k - (m + 1)) ++ [byteAt n m] := by
        rw [show k - m = k - (m + 1) + 1 from by omega, beBytes_take k n _ (by omega), show k - 1 - (k - (m + 1)) = m from by omega, List.append_assoc]
      generalize bs ++ (beBytes k n).take (k - (m + 1)) = l at ho hln hstep
      have Hstep := Lib.hid hstep; clear hstep
      obtain ⟨v, hB, hbg, hown⟩ := ho
      have hc0 := hB.cell 0
      have hf0 := hB.free 0
      have hglt := hB.lt
      have hne := own_ne_blk hown hB (by decide)
      simp at hc0
      have Hh := Lib.hid hown; clear hown
      have HB := Lib.hid hB; clear hB
      have hbv := byte_shift n m
      have w8 : IntKind.i64.wrap (8 * (m : Int)) = 8 * (m : Int) := IntWalk.i64_in _ (by omega)
      have p8 : 0 ≤ 8 * (m : Int) := by omega
      go_wp2_with fail
      go_region_law (refine step_append_lies _ (by rfl) _ _ _ (by rfl) base 5 i0 _ 1 1 Try.underlying78 hi0 hz0 hz1 hz2 rfl (by omega) v _ _ (by rfl) ((Hh.out.alloc _).drew) ⟨wr.heap.size, 0, none⟩ 1 1 [byteV (byteAt n m)] (by rfl) (by rfl) (World.news_of_block (cs := #[byteV (byteAt n m)]) (t := 5) (fr := (0, 0)) (heap_alloc_new wr _)) (by simp [Value.oneCell', byteV]) (by omega) (by simp only [maxLen]; omega) (by omega) (by simp; omega) (wr.heap.size + 1) (by simp) ?_; intro gg cap w1 hown1 hgrow hat hlt1; have hB1 := Lib.hid (((HB.out.alloc (.cells #[byteV (byteAt n m)] 5)).drew).grown hgrow (Ne.symm hne)); have hc1 := hB1.out.cell 0; have hf1 := hB1.out.free 0; simp at hc1)
      all_goals
        have hbz : base ≤ wr.heap.size := by have := hbel.bel.size; omega
        have hbel1 : OutStep base wr w1 := (OutStep.of_below (((Below.refl wr.heap.size wr).alloc (Nat.le_refl _) _).drew) hbz).trans (OutStep.row ((Hh.out.alloc _).drew) hgrow (by simp; omega))
        have hgg : (Value.slice (some ⟨gg, 0, none⟩) (l.length + 1) cap).ownBlock ≠ some g := own_ne_blk hown1 hB1.out (by decide)
        go_wp2
        go_roundw
        case rel =>
          refine ⟨m, by omega, rfl, ?_, (hbel.trans hbel1).trans (OutStep.put hB1.out hbg _)⟩
          rw [Hstep.out]
          refine ⟨_, hB1.out.put 0 _, hbg, ?_⟩
          rw [List.length_append, List.map_append]
          exact own_far hown1 hgg _
        case measure => simp [intOf] <;> omega
    | zero => 
      go_wp2
      go_ret
      refine ⟨rfl, ?_, hbel⟩
      rwa [Nat.sub_zero, List.take_of_length_le (by rw [beBytes_length]; omega)] at ho

theorem small_t (g base k n : Nat) (bs : List UInt8) (w : World) (h : OutIs w base g bs 0) (hb : base ≤ w.heap.size) (hl : bs.length + k ≤ 1000000000) (hk : k ≤ 4) (hn : n < 256 ^ k) :
    Calls Try.prog 69 #[.pointer (some ⟨g, 0, none⟩), .int .i64 (n : Int), .int .i64 (k : Int)] w fun e w' =>
      e = .returned (.pointer (some ⟨g, 0, none⟩)) ∧ OutIs w' base g (bs ++ beBytes k n) 0 ∧ OutStep base w w' := by
  have hn4 : n < 4294967296 := Nat.lt_of_lt_of_le hn (Nat.pow_le_pow_right (by decide) hk : 256 ^ k ≤ 256 ^ 4)
  obtain ⟨v, hB, hbg, hown⟩ := id h
  go_enter Try.func69, Try.ntmps69
  go_wp2_with fail
  rw [small_test n k hn]
  refine (ofail_no g v 1 _ hB).mono ?_
  rintro e w' ⟨rfl, rfl⟩
  go_wp2_with fail
  refine (high_t g base k n bs _ h hb hl (by omega) (by omega)).mono ?_
  rintro e w' ⟨rfl, ho, hbel⟩
  go_wp2
  go_ret
  exact ⟨rfl, ho, hbel⟩

theorem u8_t (g base n : Nat) (bs : List UInt8) (w : World) (h : OutIs w base g bs 0) (hb : base ≤ w.heap.size) (hl : bs.length + 1 ≤ 1000000000) (hn : n < 256) :
    Calls Try.prog 51 #[.pointer (some ⟨g, 0, none⟩), .int .i64 (n : Int)] w fun e w' =>
      e = .returned (.pointer (some ⟨g, 0, none⟩)) ∧ OutIs w' base g (bs ++ beBytes 1 n) 0 ∧ OutStep base w w' := by
  go_enter Try.func51, Try.ntmps51
  go_wp2_with fail
  refine (small_t g base 1 n bs _ h hb hl (by omega) (by omega)).mono ?_
  rintro e w' ⟨rfl, ho, hbel⟩
  go_wp2
  go_ret
  exact ⟨rfl, ho, hbel⟩

theorem text_t (g base : Nat) (bs : List UInt8) (s : ByteArray) (w : World) (h : OutIs w base g bs 0) (hb : base ≤ w.heap.size) (hs : s.size ≤ 65536) (hl : bs.length ≤ 900000000) :
    Calls Try.prog 53 #[.pointer (some ⟨g, 0, none⟩), .string s] w fun e w' =>
      e = .returned (.pointer (some ⟨g, 0, none⟩)) ∧ OutIs w' base g (bs ++ textL s.data.toList) 0 ∧ OutStep base w w' := by
  obtain ⟨i0, hi0, hz0, hz1, hz2⟩ := info_parts info_u8
  obtain ⟨v, hB, hbg, hown⟩ := id h
  have hd : decide ((65536 : Int) < (s.size : Int)) = false := by simp; omega
  have hwr : IntKind.u64.wrap (s.size : Int) = (s.size : Int) := IntWalk.u64_in _ (by omega)
  have hfn := ofail_no g v 2 w hB
  have Hfn := Lib.hid hfn; have Hh := Lib.hid h
  clear h hB hown hfn
  go_enter Try.func53, Try.ntmps53
  go_wp2_with fail
  refine Hfn.out.mono ?_
  rintro e w' ⟨rfl, rfl⟩
  go_wp2_with fail
  refine (high_t g base 4 s.size bs _ Hh.out hb (by omega) (by omega) (by omega)).mono ?_
  rintro e w1 ⟨rfl, ho1, hb1⟩
  obtain ⟨v1, hB1, hbg1, hown1⟩ := ho1
  have hc0 := hB1.cell 0
  have hf0 := hB1.free 0
  simp at hc0
  have hne := own_ne_blk hown1 hB1 (by decide)
  have hlen : (bs ++ beBytes 4 s.size).length = bs.length + 4 := by rw [List.length_append, beBytes_length]
  have Hown1 := Lib.hid hown1; have HB1 := Lib.hid hB1; have Hlen := Lib.hid hlen
  have hbz := Nat.le_trans hb hb1.bel.size
  clear hown1 hB1 hlen
  go_wp2_with (at_builtin; refine Lib.wpList_append_own_string _ rfl (.tmp 24) (.tmp 25) _ _ rfl base 5 i0 Try.underlying78 Try.underlying9 hi0 hz0 hz1 hz2 v1 _ _ rfl Hown1.out s rfl (by rw [Hlen.out]; simp only [maxLen]; omega) (by rw [Hlen.out]; omega) hbz ?_; intro v2 w2 hown2 hgrow _; obtain ⟨A2, c2, rfl, hc2⟩ := own_slice hown2; have hB2 := Lib.hid (HB1.out.grown hgrow (Ne.symm hne)); have hd0 := hB2.out.cell 0; have hf2 := hB2.out.free 0; simp at hd0; have Hown2 := Lib.hid hown2; clear hown2)
  go_ret
  have hbel1 : OutStep base w1 w2 := OutStep.row Hown1.out hgrow hbz
  have hgg := own_ne_blk Hown2.out hB2.out (by decide)
  refine ⟨rfl, ⟨_, hB2.out.put 0 _, hbg, ?_⟩, (hb1.trans hbel1).trans (OutStep.put hB2.out hbg _)⟩
  have h3 := own_far (a := ⟨g, 0, none⟩) Hown2.out hgg (.slice A2 ((bs ++ beBytes 4 s.size).length + s.size) c2)
  rw [strCells_bytes, ← List.map_append] at h3
  rw [show bs ++ textL s.data.toList = bs ++ beBytes 4 s.size ++ s.data.toList from by unfold textL; rw [← size_list, List.append_assoc]]
  rw [show (bs ++ beBytes 4 s.size ++ s.data.toList).length = (bs ++ beBytes 4 s.size).length + s.size from by rw [List.length_append, ← size_list]]
  rw [show bs.length + (beBytes 4 s.size).length + s.size = (bs ++ beBytes 4 s.size).length + s.size from by rw [List.length_append]]
  exact h3

theorem u64_t (g base n : Nat) (bs : List UInt8) (w : World) (h : OutIs w base g bs 0) (hb : base ≤ w.heap.size) (hl : bs.length + 8 ≤ 1000000000) (hn : n < 18446744073709551616) :
    Calls Try.prog 90 #[.pointer (some ⟨g, 0, none⟩), .int .u64 (n : Int)] w fun e w' =>
      e = .returned (.pointer (some ⟨g, 0, none⟩)) ∧ OutIs w' base g (bs ++ beBytes 8 n) 0 ∧ OutStep base w w' := by
  have hh := high_t g base 8 n bs w h hb hl (by omega) hn
  obtain ⟨v, hB, hbg, hown⟩ := h
  have hc1 := hB.cell 1
  simp at hc1
  have Hh := Lib.hid hh
  clear hh hB hown
  go_enter Try.func90, Try.ntmps90
  go_wp2_with fail
  refine Hh.out.mono ?_
  rintro e w' ⟨rfl, ho, hbel⟩
  go_wp2_with fail
  go_ret
  exact ⟨rfl, ho, hbel⟩

theorem i64_t (g base : Nat) (v : Int) (bs : List UInt8) (w : World) (h : OutIs w base g bs 0) (hb : base ≤ w.heap.size) (hl : bs.length + 8 ≤ 1000000000) :
    Calls Try.prog 73 #[.pointer (some ⟨g, 0, none⟩), .int .i64 v] w fun e w' =>
      e = .returned (.pointer (some ⟨g, 0, none⟩)) ∧ OutIs w' base g (bs ++ be64 v) 0 ∧ OutStep base w w' := by
  have hh := u64_t g base (u64of v) bs w h hb hl (u64of_lt v)
  rw [← u64of_wrap] at hh
  have Hh := Lib.hid hh
  clear hh h
  go_enter Try.func73, Try.ntmps73
  go_wp2_with fail
  refine Hh.out.mono ?_
  rintro e w' ⟨rfl, ho, hbel⟩
  go_wp2_with fail
  go_ret
  exact ⟨rfl, ho, hbel⟩

end Go.Proofs.Ytfjilngofdahgaa
