/- The document's Out that begins with a word: a number laid behind it. -/
import Derived.Test.YtfkkcgdniepgoaaGreatCTableTellsRefOut
import Derived.Deep.RegionLawGrows
import Derived.Lib.SlBytesConst
import Derived.Test.YtfkkcgdniepgoaaGreatJTableTells7

namespace Go.Proofs.YtfkkcgdniepgoaaGreat
open Go.RowKit
set_option maxHeartbeats 4000000
set_option maxRecDepth 100000
set_option linter.unusedVariables false

theorem refNumM_any (g base r n N : Nat) (ml : List UInt8) (w : World) (hml : ml.length = N) (hN : N = 4) (hB : BlkIs w g 118 #[.slice (some ⟨r, 0, none⟩) N N, .int .i64 0]) (hc : ∀ (j : Nat) (u : Value), (ml.map byteV)[j]? = some u → w.cell? ((⟨r, 0, none⟩ : Addr).add j) = some u) (hbg : base ≤ g) (hb : base ≤ w.heap.size) (hn : n < 4294967296) :
    Calls Tryz.prog 84 #[.pointer (some ⟨g, 0, none⟩), .int .u64 (n : Int), .int .i64 4] w fun e w' =>
      e = .returned (.tuple #[]) ∧ RoutIs w' base g (ml ++ beBytes 4 n) 0 ∧ Below base w w' := by
  obtain ⟨i0, hi0, hz0, hz1, hz2⟩ := info_parts info_u8
  have HB0 := Lib.hid hB; have Hc := Lib.hid hc; have Hml := Lib.hid hml; have HN := Lib.hid hN
  have hN9 : N ≤ 9 := by omega
  clear hB hc hml hN
  go_enter Tryz.func84, Tryz.ntmps84
  go_wp2
  go_loopw [6] (fun i wr => ∃ m : Nat, m ≤ 4 ∧ i = .int .i64 ((m : Int) - 1) ∧ Hid ((m = 4 ∧ wr = w) ∨ (m < 4 ∧ RoutIs wr base g (ml ++ (beBytes 4 n).take (4 - m)) 0 ∧ Below base w wr))) (fun i _ => (intOf i + 1).toNat)
  case atStart => exact ⟨4, Nat.le_refl _, rfl, Lib.hid (.inl ⟨rfl, rfl⟩)⟩
  case round =>
    obtain ⟨m, hm, rfl, HI⟩ := hrel
    cases m with
    | succ m =>
      rw [show ((m + 1 : Nat) : Int) - 1 = (m : Int) from by omega]
      have hbv := byte_shift n m
      have w8 : IntKind.i64.wrap (8 * (m : Int)) = 8 * (m : Int) := IntWalk.i64_in _ (by omega)
      have p8 : 0 ≤ 8 * (m : Int) := by omega
      have m0 : 0 ≤ (m : Int) := by omega
      rcases HI.out with ⟨h4, hwr⟩ | ⟨h4, ho, hbel⟩
      · subst hwr
        have hc0 := HB0.out.cell 0
        have hc1 := HB0.out.cell 1
        have hf0 := HB0.out.free 0
        have hglt := HB0.out.lt
        simp at hc0 hc1
        have hstep : ml ++ (beBytes 4 n).take (4 - m) = ml ++ [byteAt n m] := by
          rw [show 4 - m = (4 - (m + 1)) + 1 from by omega, beBytes_take 4 n _ (by omega), show 4 - 1 - (4 - (m + 1)) = m from by omega, show 4 - (m + 1) = 0 from by omega]
          rfl
        have HcA : Hid (∀ b, some (⟨r, 0, none⟩ : Addr) = some b → ∀ (j : Nat) (u : Value), (ml.map byteV)[j]? = some u → ((wr.alloc (.cells #[byteV (byteAt n m)] 5)).drew).cell? (b.add j) = some u) := Lib.hid (fun b hb j u hu => by injection hb with hb; subst hb; exact Lib.cell?_alloc_marked _ (Hc.out j u hu))
        have KV : Hid (∀ (v1 : Value) (w1 : World), w1.ownsRow ((wr.alloc (.cells #[byteV (byteAt n m)] 5)).drew).heap.size 5 1 v1 (N + 1) (ml.map byteV ++ [byteV (byteAt n m)]) → ((wr.alloc (.cells #[byteV (byteAt n m)] 5)).drew).grownBy w1 none → ∃ A1 c1, v1 = .slice A1 (N + 1) c1 ∧ Hid (BlkIs w1 g 118 #[.slice (some ⟨r, 0, none⟩) N N, .int .i64 0]) ∧ w1.cell? ⟨g, 0, none⟩ = some (.slice (some ⟨r, 0, none⟩) N N) ∧ w1.frozen? ⟨g, 0, none⟩ = false ∧ Hid (w1.ownsRow base 5 1 (.slice A1 (N + 1) c1) (N + 1) (ml.map byteV ++ [byteV (byteAt n m)])) ∧ Hid (Below base wr w1) ∧ Hid ((Value.slice A1 (N + 1) c1).ownBlock ≠ some g)) := Lib.hid (fun v1 w1 ho hg => by
          obtain ⟨A1, c1, hv1, _⟩ := own_slice ho
          subst hv1
          have hB1 := ((HB0.out.alloc (.cells #[byteV (byteAt n m)] 5)).drew).grown hg (fun h => nomatch h)
          have ho2 := own_mono ho (show base ≤ _ by simp; omega)
          exact ⟨A1, c1, rfl, Lib.hid hB1, hB1.cell 0, hB1.free 0, Lib.hid ho2, Lib.hid ((((Below.refl _ _).alloc (by omega) _).drew).grown hg (by simp <;> omega) (fun q hq => nomatch hq)), Lib.hid (own_ne_blk ho2 hB1 (by decide))⟩)
        have Hstep := Lib.hid hstep
        have H4 := Lib.hid h4
        clear hstep h4 HI
        go_wp2_with fail
        go_region_law (refine step_append_grows rfl (.tmp 24) (.tmp 30) 72 rfl 5 i0 _ 1 1 Tryz.underlying72 hi0 hz0 hz1 hz2 rfl (by omega) (some ⟨r, 0, none⟩) N N (ml.map byteV) (by simp [Act.eval, Act.put]) (fun h => nomatch h) (by rw [List.length_map, Hml.out, Nat.mul_one]) (HcA.out) ⟨wr.heap.size, 0, none⟩ 1 1 [byteV (byteAt n m)] (by simp [Act.eval, Act.put]) rfl (World.news_of_block (cs := #[byteV (byteAt n m)]) (t := 5) (fr := (0, 0)) (heap_alloc_new wr _)) (by simp [Value.oneCell', byteV]) (by omega) (by simp only [maxLen]; omega) (by omega) ?_; intro v1 w1 hown1 hgrow; obtain ⟨A1, c1, rfl, hB1, hd1, hf1, hown2, hbel1, hgg⟩ := KV.out v1 w1 hown1 hgrow)
        all_goals
          go_wp2
          go_roundw
          case rel =>
            refine ⟨m, by omega, rfl, Lib.hid (.inr ⟨by omega, ?_, hbel1.out.setCell (by exact hbg) _⟩)⟩
            rw [Hstep.out]
            refine ⟨_, hB1.out.put 0 _, hbg, ?_⟩
            rw [List.length_append, List.map_append, Hml.out]
            exact own_far hown2.out hgg.out _
          case measure => simp [intOf] <;> omega
      · have hln : (ml ++ (beBytes 4 n).take (4 - (m + 1))).length ≤ 1000 := by rw [List.length_append, List.length_take, beBytes_length, Hml.out]; omega
        have hstep : ml ++ (beBytes 4 n).take (4 - m) = ml ++ (beBytes 4 n).take (4 - (m + 1)) ++ [byteAt n m] := by
          rw [show 4 - m = 4 - (m + 1) + 1 from by omega, beBytes_take 4 n _ (by omega), show 4 - 1 - (4 - (m + 1)) = m from by omega, List.append_assoc]
        generalize ml ++ (beBytes 4 n).take (4 - (m + 1)) = l at ho hln hstep
        have Hstep := Lib.hid hstep
        clear hstep HI
        obtain ⟨v, hB, hbg, hown⟩ := ho
        have hc0 := hB.cell 0
        have hc1 := hB.cell 1
        have hf0 := hB.free 0
        have hglt := hB.lt
        have hne := own_ne_blk hown hB (by decide)
        simp at hc0 hc1
        have Hh := Lib.hid hown; clear hown
        have HB := Lib.hid hB; clear hB
        go_wp2_with fail
        go_region_law (refine step_append_lies _ (by rfl) _ _ _ (by rfl) base 5 i0 _ 1 1 Tryz.underlying72 hi0 hz0 hz1 hz2 rfl (by omega) v _ _ (by rfl) ((Hh.out.alloc _).drew) ⟨wr.heap.size, 0, none⟩ 1 1 [byteV (byteAt n m)] (by rfl) (by rfl) (World.news_of_block (cs := #[byteV (byteAt n m)]) (t := 5) (fr := (0, 0)) (heap_alloc_new wr _)) (by simp [Value.oneCell', byteV]) (by omega) (by simp only [maxLen]; omega) (by omega) (by have := hbel.size; simp; omega) (wr.heap.size + 1) (by simp) ?_; intro gg cap w1 hown1 hgrow hat hlt1; have hB1 := Lib.hid (((HB.out.alloc (.cells #[byteV (byteAt n m)] 5)).drew).grown hgrow (Ne.symm hne)); have hd1 := hB1.out.cell 0; have hf1 := hB1.out.free 0; simp at hd1)
        all_goals
          have hbel1 : Below base wr w1 := (((Below.refl _ _).alloc (by have := hbel.size; omega) _).drew).grown hgrow (by have := hbel.size; simp <;> omega) (fun q hq => (Hh.out.lt q hq).1)
          have hgg : (Value.slice (some ⟨gg, 0, none⟩) (l.length + 1) cap).ownBlock ≠ some g := own_ne_blk hown1 hB1.out (by decide)
          go_wp2
          go_roundw
          case rel =>
            refine ⟨m, by omega, rfl, Lib.hid (.inr ⟨by omega, ?_, (hbel.trans hbel1).setCell (by exact hbg) _⟩)⟩
            rw [Hstep.out]
            refine ⟨_, hB1.out.put 0 _, hbg, ?_⟩
            rw [List.length_append, List.map_append]
            exact own_far hown1 hgg _
          case measure => simp [intOf] <;> omega
    | zero =>
      rcases HI.out with ⟨h4, _⟩ | ⟨_, ho, hbel⟩
      · omega
      go_wp2
      go_end0
      refine ⟨rfl, ?_, hbel⟩
      rwa [Nat.sub_zero, List.take_of_length_le (by rw [beBytes_length]; omega)] at ho
end Go.Proofs.YtfkkcgdniepgoaaGreat
