/- codec.In: bytes read one behind the other. -/
import Derived.Test.YtfjilngofdahgaaRows
import Derived.Test.YtfjilngofdahgaaCIndexBytesFrameLaw
import Derived.Test.YtfjilngofdahgaaCIndexBytesBytes
import Derived.Test.YtfjilngofdahgaaClone
import Derived.RegionTactic
import Derived.Deep.QuietTactic
import Derived.BigQuiet
import Derived.Deep.RegionWith

namespace Go.Proofs.Ytfjilngofdahgaa
open Go.RowKit
set_option maxHeartbeats 400000
set_option linter.unusedVariables false

/-- the block g is an In that has the bytes bs left, and the error e; it lies from base on -/
def InIs (w : World) (base g : Nat) (bs : List UInt8) (e : Int) : Prop := base ≤ g ∧ BlkIs w g 99 #[.string ⟨bs.toArray⟩, .int .i64 e]

theorem InIs.alloc {w : World} {base g : Nat} {bs : List UInt8} {e : Int} (h : InIs w base g bs e) (o : Obj) : InIs (w.alloc o) base g bs e := ⟨h.1, h.2.alloc o⟩
theorem InIs.below {w w' : World} {base g B : Nat} {bs : List UInt8} {e : Int} (h : InIs w base g bs e) (hb : Below B w w') (hg : g < B) : InIs w' base g bs e := ⟨h.1, h.2.below hb hg⟩
theorem InIs.lt {w : World} {base g : Nat} {bs : List UInt8} {e : Int} (h : InIs w base g bs e) : g < w.heap.size := h.2.lt

/-- what take takes, what is left, the error -/
def inTake (n : Nat) (bs : List UInt8) (e : Int) : List UInt8 × List UInt8 × Int :=
  if e ≠ 0 then ([], bs, e) else if bs.length < n then ([], bs, 5) else (bs.take n, bs.drop n, 0)
theorem inTake_ok {n : Nat} {bs : List UInt8} (h : n ≤ bs.length) : inTake n bs 0 = (bs.take n, bs.drop n, 0) := by
  unfold inTake; rw [if_neg (by decide), if_neg (by omega)]
theorem inTake_short {n : Nat} {bs : List UInt8} (h : bs.length < n) : inTake n bs 0 = ([], bs, 5) := by
  unfold inTake; rw [if_neg (by decide), if_pos h]
theorem inTake_err {n : Nat} {bs : List UInt8} {e : Int} (h : e ≠ 0) : inTake n bs e = ([], bs, e) := by
  unfold inTake; rw [if_pos h]

theorem newIn_any (s : ByteArray) (w : World) (hs : s.size ≤ 1000000000) :
    Calls Try.prog 49 #[.string s] w fun e w' => ∃ g, e = .returned (.pointer (some ⟨g, 0, none⟩)) ∧ InIs w' w.heap.size g s.data.toList 0 ∧ Below w.heap.size w w' := by
  go_enter Try.func49, Try.ntmps49
  go_wp2_with fail
  refine (clone_in s _ hs).mono ?_
  rintro e w1 ⟨rfl, hb1⟩
  go_wp2_with fail
  go_ret
  exact ⟨_, rfl, ⟨hb1.size, BlkIs.new _ _ _⟩, hb1.alloc hb1.size _⟩

theorem infail_ok (g base : Nat) (bs : List UInt8) (x : Int) (w : World) (h : InIs w base g bs 0) :
    Calls Try.prog 88 #[.pointer (some ⟨g, 0, none⟩), .int .i64 x] w fun e w' => e = .returned (.tuple #[]) ∧ InIs w' base g bs x ∧ Below base w w' := by
  have hc := h.2.cell 1
  simp at hc
  have hf := h.2.free 1
  have Hh := Lib.hid h; clear h
  go_enter Try.func88, Try.ntmps88
  go_wp2
  go_end0
  exact ⟨rfl, ⟨Hh.out.1, Hh.out.2.put 1 _⟩, (Below.refl _ _).setCell (by exact Hh.out.1) _⟩

theorem take_any (g base n : Nat) (bs : List UInt8) (x : Int) (w : World) (h : InIs w base g bs x) (hl : bs.length ≤ 1000000000) (hn : n ≤ 1000000000000) :
    Calls Try.prog 83 #[.pointer (some ⟨g, 0, none⟩), .int .i64 (n : Int)] w fun e w' =>
      e = .returned (.string ⟨(inTake n bs x).1.toArray⟩) ∧ InIs w' base g (inTake n bs x).2.1 (inTake n bs x).2.2 ∧ Below base w w' := by
  have hc0 := h.2.cell 0
  have hc1 := h.2.cell 1
  simp at hc0 hc1
  have hf0 := h.2.free 0
  by_cases hx : x = 0
  · subst hx
    by_cases hlt : n ≤ bs.length
    · rw [inTake_ok hlt]
      have Hh := Lib.hid h; clear h
      have hsz : (⟨bs.toArray⟩ : ByteArray).size = bs.length := size_mk bs
      have hlt' : (n : Int) ≤ (bs.length : Int) := by omega
      go_enter Try.func83, Try.ntmps83
      go_wp2_with fail
      go_ret
      have e1 : (⟨bs.toArray⟩ : ByteArray).extract 0 n = ⟨(bs.take n).toArray⟩ := str_to _ _
      have e2 : (⟨bs.toArray⟩ : ByteArray).extract n bs.length = ⟨(bs.drop n).toArray⟩ := by rw [← size_mk bs]; exact str_from _ _
      refine ⟨by rw [e1]; rfl, ⟨Hh.out.1, ?_⟩, (Below.refl _ _).setCell (by exact Hh.out.1) _⟩
      have := Hh.out.2.put 0 (.string ((⟨bs.toArray⟩ : ByteArray).extract n bs.length))
      rw [e2] at this ⊢
      exact this
    · rw [inTake_short (by omega)]
      have Hh := Lib.hid h; clear h
      have hlt' : (bs.length : Int) < (n : Int) := by omega
      go_enter Try.func83, Try.ntmps83
      go_wp2_with fail
      refine (infail_ok g base bs 5 _ Hh.out).mono ?_
      rintro e w1 ⟨rfl, h1, hb1⟩
      go_wp2_with fail
      go_ret
      exact ⟨rfl, h1, hb1⟩
  · rw [inTake_err hx]
    have hx' : (x != 0) = true := by rw [bne_iff_ne]; exact hx
    have Hh := Lib.hid h; clear h
    clear hx
    go_enter Try.func83, Try.ntmps83
    go_wp2_with fail
    go_ret
    exact ⟨rfl, Hh.out, Below.refl _ _⟩

theorem or_byte (v : Nat) (c : UInt8) (hv : v < 72057594037927936) : bits .or .u64 ((v : Int) * 256) (c.toNat : Int) = ((v * 256 + c.toNat : Nat) : Int) := by
  have hc := c.toNat_lt
  rw [bits_join .u64 64 (by decide) (fun n h0 h1 => IntWalk.u64_in n (by omega)) 8 _ _ (by omega) (by omega) (by omega) (by omega) (by omega) (by omega)]
  rw [Int.natCast_add, Int.natCast_mul]; rfl

theorem low_any (s : ByteArray) (w : World) (hs : s.size ≤ 8) :
    Calls Try.prog 82 #[.string s] w fun e w' => e = .returned (.int .u64 (beVal s.data.toList : Nat)) ∧ Below w.heap.size w w' := by
  go_enter Try.func82, Try.ntmps82
  go_wp2_with ((with_reducible refine wpList_to_bytes _ 9 78 5 (.tmp 6) s rfl rfl ?hx Try.underlying9 Try.underlying78 Try.underlying5 ?_); (case hx => rfl); intro g cap w2 hg hcap hb2 hrow; have Hg := Lib.hid hg; clear hg)
  generalize hl : s.data.toList = l at hrow
  have hsl : s.size = l.length := by rw [← hl]; exact size_list s
  rw [hsl] at hs ⊢
  have Hl := Lib.hid hl; clear hl hsl
  go_loop [3, 9] (fun v i => ∃ k : Nat, k ≤ l.length ∧ i = .int .i64 k ∧ v = .int .u64 (beVal (l.take k) : Nat)) (fun _ i => l.length - (intOf i).toNat)
  case atStart => exact ⟨0, Nat.zero_le _, rfl, rfl⟩
  case round =>
    obtain ⟨k, hk, rfl, rfl⟩ := hrel
    generalize hv : beVal (l.take k) = v
    by_cases hlt : k < l.length
    · have hcell := hrow.cell k hlt
      have hvl : v < 72057594037927936 := by
        rw [← hv]
        have h1 := beVal_lt (l.take k)
        rw [List.length_take] at h1
        have h2 : 256 ^ (min k l.length) ≤ 256 ^ 7 := Nat.pow_le_pow_right (by decide) (by omega)
        omega
      have hor := or_byte v l[k] hvl
      have hstep : beVal (l.take (k + 1)) = v * 256 + l[k].toNat := by
        rw [List.take_succ_eq_append_getElem hlt, beVal_snoc, hv]
      unfold byteV at hcell
      have Hv := Lib.hid hv; have Hstep := Lib.hid hstep
      clear hv hstep
      go_wp2_with fail
      go_round
      case rel =>
        refine ⟨k + 1, by omega, by go_num, int_eq ?_⟩
        have hc := l[k].toNat_lt
        rw [IntWalk.u64_in _ (by omega), hor, Hstep.out]
      case measure => simp [intOf]; omega
    · obtain rfl : k = l.length := by omega
      have Hv := Lib.hid hv; clear hv
      go_wp2_with fail
      go_ret
      refine ⟨?_, hb2⟩
      rw [Hl.out, ← Hv.out, List.take_of_length_le (Nat.le_refl _)]
      rfl

/-- a number of so many bytes -/
def inNum (n : Nat) (bs : List UInt8) (e : Int) : Nat := beVal (inTake n bs e).1
theorem inTake_length (n : Nat) (bs : List UInt8) (e : Int) : (inTake n bs e).1.length ≤ n := by
  unfold inTake
  split
  · simp
  split
  · simp
  · simp only [List.length_take]; omega
theorem inNum_lt (n : Nat) (bs : List UInt8) (e : Int) : inNum n bs e < 256 ^ n := by
  unfold inNum
  exact Nat.lt_of_lt_of_le (beVal_lt _) (Nat.pow_le_pow_right (by decide) (inTake_length n bs e))
theorem inU32_any (g base : Nat) (bs : List UInt8) (x : Int) (w : World) (h : InIs w base g bs x) (hl : bs.length ≤ 1000000000) :
    Calls Try.prog 92 #[.pointer (some ⟨g, 0, none⟩)] w fun e w' =>
      e = .returned (.int .i64 (inNum 4 bs x : Nat)) ∧ InIs w' base g (inTake 4 bs x).2.1 (inTake 4 bs x).2.2 ∧ Below base w w' := by
  have hlt := inNum_lt 4 bs x
  have hle := inTake_length 4 bs x
  unfold inNum at hlt ⊢
  have hbw : base ≤ w.heap.size := Nat.le_trans h.1 (Nat.le_of_lt h.lt)
  have ht := take_any g base 4 bs x w h hl (by omega)
  generalize inTake 4 bs x = q at hlt hle ht ⊢
  have Ht := Lib.hid ht; clear ht h
  go_enter Try.func92, Try.ntmps92
  go_wp2_with fail
  refine Ht.out.mono ?_
  rintro e w1 ⟨rfl, h1, hb1⟩
  have H1 := Lib.hid h1; clear h1
  go_wp2_with fail
  refine (low_any _ _ (by rw [size_mk]; omega)).mono ?_
  rintro e w2 ⟨rfl, hb2⟩
  go_wp2_with fail
  go_ret
  exact ⟨rfl, H1.out.below hb2 H1.out.lt, hb1.trans (hb2.mono (Nat.le_trans hbw hb1.size))⟩
end Go.Proofs.Ytfjilngofdahgaa
