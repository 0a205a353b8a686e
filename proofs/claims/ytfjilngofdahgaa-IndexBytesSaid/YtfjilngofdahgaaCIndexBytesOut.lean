/- codec.Out: bytes put one behind the other. -/
import Derived.Test.YtfjilngofdahgaaRows
import Derived.Test.YtfjilngofdahgaaJIndexBytes1
import Derived.RegionTactic
import Derived.BigRegion
import Derived.Deep.QuietTactic
import Derived.BigQuiet
import Derived.Deep.RegionHeld3
import Derived.Deep.RegionLaw

namespace Go.Proofs.Ytfjilngofdahgaa
open Go.RowKit
set_option maxHeartbeats 400000

/-- the block g is an Out that has the bytes bs and the error e; its row lies from base on -/
def OutIs (w : World) (base g : Nat) (bs : List UInt8) (e : Int) : Prop :=
  ∃ v, BlkIs w g 80 #[v, .int .i64 e] ∧ base ≤ g ∧ w.ownsRow base 5 1 v bs.length (bs.map byteV)

theorem info_u8 : (Try.prog.info? 5).map (fun i => (i.zero, i.size, i.bytes)) = some (some (.int .u8 0), 1, 1) := by kernel_rfl

theorem high_any (g base k n : Nat) (bs : List UInt8) (w : World) (h : OutIs w base g bs 0) (hb : base ≤ w.heap.size) (hl : bs.length + k ≤ 1000000000) (hk : k ≤ 8) (hn : n < 18446744073709551616) :
    Calls Try.prog 75 #[.pointer (some ⟨g, 0, none⟩), .int .u64 (n : Int), .int .i64 (k : Int)] w fun e w' =>
      e = .returned (.pointer (some ⟨g, 0, none⟩)) ∧ OutIs w' base g (bs ++ beBytes k n) 0 ∧ Below base w w' := by
  obtain ⟨i0, hi0, hz0, hz1, hz2⟩ := info_parts info_u8
  go_enter Try.func75, Try.ntmps75
  go_wp2
  go_loopw [7] (fun i wr => ∃ m : Nat, m ≤ k ∧ i = .int .i64 ((m : Int) - 1) ∧ OutIs wr base g (bs ++ (beBytes k n).take (k - m)) 0 ∧ Below base w wr) (fun i _ => (intOf i + 1).toNat)
  case atStart => exact ⟨k, Nat.le_refl _, rfl, by simpa using h, Below.refl _ _⟩
  case round =>
    obtain ⟨m, hm, rfl, ho, hbel⟩ := hrel
    cases m with
    | succ m =>
      rw [show ((m + 1 : Nat) : Int) - 1 = (m : Int) from by omega]
      have hln : (bs ++ (beBytes k n).take (k - (m + 1))).length ≤ 1000000000 - 1 := by rw [List.length_append, List.length_take, beBytes_length]; omega
      have hstep : bs ++ (beBytes k n).take (k - m) = bs ++ (beBytes k n).take (k - (m + 1)) ++ [byteAt n m] := by
        rw [show k - m = k - (m + 1) + 1 from by omega, beBytes_take k n _ (by omega), show k - 1 - (k - (m + 1)) = m from by omega, List.append_assoc]
      generalize bs ++ (beBytes k n).take (k - (m + 1)) = l at ho hln hstep
      have Hstep := Lib.hid hstep; clear hstep
      obtain ⟨v, hB, hbg, hown⟩ := ho
      have hc0 := hB.cell 0
      have hf0 := hB.free 0
      have hglt := hB.lt
      have hne := own_ne_blk hown hB (by decide)
      simp at hc0
      have Hh := Lib.hid hown; clear hown
      have HB := Lib.hid hB; clear hB
      have hbv := byte_shift n m
      have w8 : IntKind.i64.wrap (8 * (m : Int)) = 8 * (m : Int) := IntWalk.i64_in _ (by omega)
      have p8 : 0 ≤ 8 * (m : Int) := by omega
      go_wp2_with fail
      go_region_law (refine step_append_lies _ (by rfl) _ _ _ (by rfl) base 5 i0 _ 1 1 Try.underlying78 hi0 hz0 hz1 hz2 rfl (by omega) v _ _ (by rfl) ((Hh.out.alloc _).drew) ⟨wr.heap.size, 0, none⟩ 1 1 [byteV (byteAt n m)] (by rfl) (by rfl) (World.news_of_block (cs := #[byteV (byteAt n m)]) (t := 5) (fr := (0, 0)) (heap_alloc_new wr _)) (by simp [Value.oneCell', byteV]) (by omega) (by simp only [maxLen]; omega) (by omega) (by simp; omega) (wr.heap.size + 1) (by simp) ?_; intro gg cap w1 hown1 hgrow hat hlt1; have hB1 := Lib.hid (((HB.out.alloc (.cells #[byteV (byteAt n m)] 5)).drew).grown hgrow (Ne.symm hne)); have hc1 := hB1.out.cell 0; have hf1 := hB1.out.free 0; simp at hc1)
      all_goals
        have hbel1 : Below base wr w1 := (((Below.refl _ _).alloc (by omega) _).drew).grown hgrow (by simp <;> omega) (fun q hq => (Hh.out.lt q hq).1)
        have hgg : (Value.slice (some ⟨gg, 0, none⟩) (l.length + 1) cap).ownBlock ≠ some g := own_ne_blk hown1 hB1.out (by decide)
        go_wp2
        go_roundw
        case rel =>
          refine ⟨m, by omega, rfl, ?_, (hbel.trans hbel1).setCell (by exact hbg) _⟩
          rw [Hstep.out]
          refine ⟨_, hB1.out.put 0 _, hbg, ?_⟩
          rw [List.length_append, List.map_append]
          exact own_far hown1 hgg _
        case measure => simp [intOf] <;> omega
    | zero => 
      go_wp2
      go_ret
      refine ⟨rfl, ?_, hbel⟩
      rwa [Nat.sub_zero, List.take_of_length_le (by rw [beBytes_length]; omega)] at ho

/-- no error yet, and nothing bad -/
theorem ofail_no (g : Nat) (v : Value) (x : Int) (w : World) (hB : BlkIs w g 80 #[v, .int .i64 0]) :
    Calls Try.prog 74 #[.pointer (some ⟨g, 0, none⟩), .bool false, .int .i64 x] w fun e w' => e = .returned (.bool false) ∧ w = w' := by
  have hc := hB.cell 1
  simp at hc
  clear hB
  go_enter Try.func74, Try.ntmps74
  go_wp2
  go_ret
  exact ⟨rfl, rfl⟩
/-- no error yet, and something bad -/
theorem ofail_new (g : Nat) (v : Value) (x : Int) (w : World) (hB : BlkIs w g 80 #[v, .int .i64 0]) (hx : (x != 0) = true) :
    Calls Try.prog 74 #[.pointer (some ⟨g, 0, none⟩), .bool true, .int .i64 x] w fun e w' => e = .returned (.bool true) ∧ w' = w.setCell ⟨g, 1, none⟩ (.int .i64 x) := by
  have hc := hB.cell 1
  simp at hc
  have hf := hB.free 1
  clear hB
  go_enter Try.func74, Try.ntmps74
  go_wp2
  go_ret
  exact ⟨rfl, rfl⟩
/-- an error already -/
theorem ofail_old (g : Nat) (v : Value) (b : Bool) (x y : Int) (w : World) (hB : BlkIs w g 80 #[v, .int .i64 y]) (hy : (y != 0) = true) (hy' : (y == 0) = false) :
    Calls Try.prog 74 #[.pointer (some ⟨g, 0, none⟩), .bool b, .int .i64 x] w fun e w' => e = .returned (.bool true) ∧ w = w' := by
  have hc := hB.cell 1
  simp at hc
  clear hB
  go_enter Try.func74, Try.ntmps74
  go_wp2
  go_ret
  exact ⟨rfl, rfl⟩

theorem small_test (n k : Nat) (hn : n < 256 ^ k) : (decide ((n : Int) < 0) || (n : Int) / 2 ^ (8 * k) != 0) = false := by
  have e : (2 : Int) ^ (8 * k) = ((256 ^ k : Nat) : Int) := by
    rw [show (256 : Nat) = 2 ^ 8 from rfl, ← Nat.pow_mul]
    exact (Int.natCast_pow 2 (8 * k)).symm
  rw [e, ← Int.natCast_ediv, Nat.div_eq_of_lt hn]
  simp
theorem small_test' (n : Int) (k : Nat) (hn : n < 0 ∨ (256 : Int) ^ k ≤ n) : (decide (n < 0) || n / 2 ^ (8 * k) != 0) = true := by
  have e : (2 : Int) ^ (8 * k) = (256 : Int) ^ k := by rw [Int.pow_mul]; rfl
  rw [e]
  rcases hn with h | h
  · simp [h]
  · have hp : (0 : Int) < 256 ^ k := Int.pow_pos (by decide)
    have : 1 ≤ n / 256 ^ k := (Int.le_ediv_iff_mul_le hp).2 (by omega)
    have h2 : (n / 256 ^ k != 0) = true := by rw [bne_iff_ne]; omega
    simp [h2]

theorem small_ok (g base k n : Nat) (bs : List UInt8) (w : World) (h : OutIs w base g bs 0) (hb : base ≤ w.heap.size) (hl : bs.length + k ≤ 1000000000) (hk : k ≤ 4) (hn : n < 256 ^ k) :
    Calls Try.prog 69 #[.pointer (some ⟨g, 0, none⟩), .int .i64 (n : Int), .int .i64 (k : Int)] w fun e w' =>
      e = .returned (.pointer (some ⟨g, 0, none⟩)) ∧ OutIs w' base g (bs ++ beBytes k n) 0 ∧ Below base w w' := by
  have hn4 : n < 4294967296 := Nat.lt_of_lt_of_le hn (Nat.pow_le_pow_right (by decide) hk : 256 ^ k ≤ 256 ^ 4)
  obtain ⟨v, hB, hbg, hown⟩ := id h
  go_enter Try.func69, Try.ntmps69
  go_wp2_with fail
  rw [small_test n k hn]
  refine (ofail_no g v 1 _ hB).mono ?_
  rintro e w' ⟨rfl, rfl⟩
  go_wp2_with fail
  refine (high_any g base k n bs _ h hb hl (by omega) (by omega)).mono ?_
  rintro e w' ⟨rfl, ho, hbel⟩
  go_wp2
  go_ret
  exact ⟨rfl, ho, hbel⟩

theorem u32_ok (g base n : Nat) (bs : List UInt8) (w : World) (h : OutIs w base g bs 0) (hb : base ≤ w.heap.size) (hl : bs.length + 4 ≤ 1000000000) (hn : n < 4294967296) :
    Calls Try.prog 70 #[.pointer (some ⟨g, 0, none⟩), .int .i64 (n : Int)] w fun e w' =>
      e = .returned (.pointer (some ⟨g, 0, none⟩)) ∧ OutIs w' base g (bs ++ beBytes 4 n) 0 ∧ Below base w w' := by
  go_enter Try.func70, Try.ntmps70
  go_wp2_with fail
  refine (small_ok g base 4 n bs _ h hb hl (by omega) (by omega)).mono ?_
  rintro e w' ⟨rfl, ho, hbel⟩
  go_wp2
  go_ret
  exact ⟨rfl, ho, hbel⟩

theorem done_ok (g base : Nat) (bs : List UInt8) (w : World) (h : OutIs w base g bs 0) :
    Calls Try.prog 54 #[.pointer (some ⟨g, 0, none⟩)] w fun e w' =>
      e = .returned (.tuple #[.string ⟨bs.toArray⟩, .int .i64 0]) ∧ w = w' := by
  obtain ⟨v, hB, hbg, hown⟩ := id h
  go_enter Try.func54, Try.ntmps54
  have hc0 := hB.cell 0
  have hc1 := hB.cell 1
  simp at hc0 hc1
  have hstr := run_str_own (P := Try.prog) w 78 9 5 Try.underlying78 Try.underlying5 Try.underlying9 base v bs hown
  clear hown hB
  go_wp2
  go_ret2
  exact ⟨rfl, rfl⟩

end Go.Proofs.Ytfjilngofdahgaa
