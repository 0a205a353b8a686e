/- chronicleref1.Out: bytes put one behind the other, by the document's own answer. -/
import Derived.Test.YtfpalamoaflilaaOut
import Derived.Test.YtfpalamoaflilaaNum64Law
namespace Go.Proofs.Ytfpalamoaflilaa
open Go.RowKit
set_option maxHeartbeats 400000

/-- the block g is the document's Out that has the bytes bs and the error e -/
def RoutIs (w : World) (base g : Nat) (bs : List UInt8) (e : Int) : Prop :=
  ∃ v, BlkIs w g 73 #[v, .int .i64 e] ∧ base ≤ g ∧ w.ownsRow base 5 1 v bs.length (bs.map byteV)

theorem rout_new (w : World) : RoutIs (w.alloc (.cells #[.slice none 0 0, .int .i64 0] 73)) w.heap.size w.heap.size [] 0 :=
  ⟨_, BlkIs.new _ _ _, Nat.le_refl _, World.ownsRow_nil _ _ _ _⟩

theorem refNum_any (g base k n : Nat) (bs : List UInt8) (w : World) (h : RoutIs w base g bs 0) (hb : base ≤ w.heap.size) (hl : bs.length + k ≤ 1000000000) (hk : k ≤ 8) (hn : n < 18446744073709551616) :
    Calls Try.prog 48 #[.pointer (some ⟨g, 0, none⟩), .int .u64 (n : Int), .int .i64 (k : Int)] w fun e w' =>
      e = .returned (.tuple #[]) ∧ RoutIs w' base g (bs ++ beBytes k n) 0 ∧ Below base w w' := by
  obtain ⟨i0, hi0, hz0, hz1, hz2⟩ := info_parts info_u8
  go_enter Try.func48, Try.ntmps48
  go_wp2
  go_loopw [6] (fun i wr => ∃ m : Nat, m ≤ k ∧ i = .int .i64 ((m : Int) - 1) ∧ RoutIs wr base g (bs ++ (beBytes k n).take (k - m)) 0 ∧ Below base w wr) (fun i _ => (intOf i + 1).toNat)
  case atStart => exact ⟨k, Nat.le_refl _, rfl, by simpa using h, Below.refl _ _⟩
  case round =>
    obtain ⟨m, hm, rfl, ho, hbel⟩ := hrel
    cases m with
    | succ m =>
      rw [show ((m + 1 : Nat) : Int) - 1 = (m : Int) from by omega]
      have hln : (bs ++ (beBytes k n).take (k - (m + 1))).length ≤ 1000000000 - 1 := by rw [List.length_append, List.length_take, beBytes_length]; omega
      have hstep : bs ++ (beBytes k n).take (k - m) = bs ++ (beBytes k n).take (k - (m + 1)) ++ [byteAt n m] := by
        rw [show k - m = k - (m + 1) + 1 from by omega, beBytes_take k n _ (by omega), show k - 1 - (k - (m + 1)) = m from by omega, List.append_assoc]
      generalize bs ++ (beBytes k n).take (k - (m + 1)) = l at ho hln hstep
      have Hstep := Lib.hid hstep; clear hstep
      obtain ⟨v, hB, hbg, hown⟩ := ho
      have hc0 := hB.cell 0
      have hc1 := hB.cell 1
      have hf0 := hB.free 0
      have hglt := hB.lt
      have hne := own_ne_blk hown hB (by decide)
      simp at hc0 hc1
      have Hh := Lib.hid hown; clear hown
      have HB := Lib.hid hB; clear hB
      have hbv := byte_shift n m
      have w8 : IntKind.i64.wrap (8 * (m : Int)) = 8 * (m : Int) := IntWalk.i64_in _ (by omega)
      have p8 : 0 ≤ 8 * (m : Int) := by omega
      have m0 : 0 ≤ (m : Int) := by omega
      go_wp2_with fail
      go_region_law (refine step_append_lies _ (by rfl) _ _ _ (by rfl) base 5 i0 _ 1 1 Try.underlying63 hi0 hz0 hz1 hz2 rfl (by omega) v _ _ (by rfl) ((Hh.out.alloc _).drew) ⟨wr.heap.size, 0, none⟩ 1 1 [byteV (byteAt n m)] (by rfl) (by rfl) (World.news_of_block (cs := #[byteV (byteAt n m)]) (t := 5) (fr := (0, 0)) (heap_alloc_new wr _)) (by simp [Value.oneCell', byteV]) (by omega) (by simp only [maxLen]; omega) (by omega) (by simp; omega) (wr.heap.size + 1) (by simp) ?_; intro gg cap w1 hown1 hgrow hat hlt1; have hB1 := Lib.hid (((HB.out.alloc (.cells #[byteV (byteAt n m)] 5)).drew).grown hgrow (Ne.symm hne)); have hd1 := hB1.out.cell 0; have hf1 := hB1.out.free 0; simp at hd1)
      all_goals
        have hbel1 : Below base wr w1 := (((Below.refl _ _).alloc (by omega) _).drew).grown hgrow (by simp <;> omega) (fun q hq => (Hh.out.lt q hq).1)
        have hgg : (Value.slice (some ⟨gg, 0, none⟩) (l.length + 1) cap).ownBlock ≠ some g := own_ne_blk hown1 hB1.out (by decide)
        go_wp2
        go_roundw
        case rel =>
          refine ⟨m, by omega, rfl, ?_, (hbel.trans hbel1).setCell (by exact hbg) _⟩
          rw [Hstep.out]
          refine ⟨_, hB1.out.put 0 _, hbg, ?_⟩
          rw [List.length_append, List.map_append]
          exact own_far hown1 hgg _
        case measure => simp [intOf] <;> omega
    | zero =>
      go_wp2
      go_end0
      refine ⟨rfl, ?_, hbel⟩
      rwa [Nat.sub_zero, List.take_of_length_le (by rw [beBytes_length]; omega)] at ho

/-- the same at a number that was made of a whole one -/
theorem refNumI_any (g base : Nat) (v : Int) (bs : List UInt8) (w : World) (h : RoutIs w base g bs 0) (hb : base ≤ w.heap.size) (hl : bs.length + 8 ≤ 1000000000) :
    Calls Try.prog 48 #[.pointer (some ⟨g, 0, none⟩), .int .u64 (IntKind.u64.wrap v), .int .i64 8] w fun e w' =>
      e = .returned (.tuple #[]) ∧ RoutIs w' base g (bs ++ be64 v) 0 ∧ Below base w w' := by
  rw [u64of_wrap]
  exact refNum_any g base 8 (u64of v) bs w h hb hl (by omega) (u64of_lt v)
end Go.Proofs.Ytfpalamoaflilaa
