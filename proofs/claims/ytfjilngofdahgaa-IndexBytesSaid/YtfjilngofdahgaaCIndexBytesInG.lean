/- codec.In: bytes read one behind the other, and nothing else of memory is changed. -/
import Derived.Test.YtfjilngofdahgaaCIndexBytesText

namespace Go.Proofs.Ytfjilngofdahgaa
open Go.RowKit
set_option maxHeartbeats 1000000
set_option maxRecDepth 100000
set_option linter.unusedVariables false

theorem grown_below {w w' : World} {row : Option Nat} (h : Below w.heap.size w w') : w.grownBy w' row := ⟨h.os, h.tape, h.output, h.size, fun k hk _ => h.block k hk⟩
theorem grown_two {a b c : World} {row : Option Nat} (h : a.grownBy b row) (h2 : b.grownBy c row) : a.grownBy c row :=
  ⟨h2.os.trans h.os, h2.tape.trans h.tape, h2.output.trans h.output, Nat.le_trans h.size h2.size, fun k hk hn => (h2.block k (Nat.lt_of_lt_of_le hk h.size) hn).trans (h.block k hk hn)⟩
theorem BlkIs.keptBy {w w' : World} {g k : Nat} {t : TypeId} {cs : Array Value} (h : BlkIs w k t cs) (hg : w.grownBy w' (some g)) (hne : k ≠ g) : BlkIs w' k t cs := h.grown hg (by simpa using hne)
theorem InIs.keptBelow {w w' : World} {base g : Nat} {bs : List UInt8} {e : Int} (h : InIs w base g bs e) (hb : Below w.heap.size w w') : InIs w' base g bs e := h.below hb h.lt

theorem takeG (g base n : Nat) (bs : List UInt8) (x : Int) (w : World) (h : InIs w base g bs x) (hl : bs.length ≤ 1000000000) (hn : n ≤ 1000000000000) :
    Calls Try.prog 83 #[.pointer (some ⟨g, 0, none⟩), .int .i64 (n : Int)] w fun e w' =>
      e = .returned (.string ⟨(inTake n bs x).1.toArray⟩) ∧ InIs w' base g (inTake n bs x).2.1 (inTake n bs x).2.2 ∧ w.grownBy w' (some g) := by
  have hc0 := h.2.cell 0
  have hc1 := h.2.cell 1
  simp at hc0 hc1
  have hf0 := h.2.free 0
  by_cases hx : x = 0
  · subst hx
    by_cases hlt : n ≤ bs.length
    · rw [inTake_ok hlt]
      have Hh := Lib.hid h; clear h
      have hsz : (⟨bs.toArray⟩ : ByteArray).size = bs.length := size_mk bs
      have hlt' : (n : Int) ≤ (bs.length : Int) := by omega
      go_enter Try.func83, Try.ntmps83
      go_wp2_with fail
      go_ret
      have e1 : (⟨bs.toArray⟩ : ByteArray).extract 0 n = ⟨(bs.take n).toArray⟩ := str_to _ _
      have e2 : (⟨bs.toArray⟩ : ByteArray).extract n bs.length = ⟨(bs.drop n).toArray⟩ := by rw [← size_mk bs]; exact str_from _ _
      refine ⟨by rw [e1]; rfl, ⟨Hh.out.1, ?_⟩, grown_set _ _ _ _⟩
      have := Hh.out.2.put 0 (.string ((⟨bs.toArray⟩ : ByteArray).extract n bs.length))
      rw [e2] at this ⊢
      exact this
    · rw [inTake_short (by omega)]
      have Hh := Lib.hid h; clear h
      have hlt' : (bs.length : Int) < (n : Int) := by omega
      go_enter Try.func83, Try.ntmps83
      go_wp2_with fail
      refine (infail_at g base bs 5 _ Hh.out).mono ?_
      rintro e w1 ⟨rfl, rfl⟩
      go_wp2_with fail
      go_ret
      exact ⟨rfl, ⟨Hh.out.1, Hh.out.2.put 1 _⟩, grown_set _ _ _ _⟩
  · rw [inTake_err hx]
    have hx' : (x != 0) = true := by rw [bne_iff_ne]; exact hx
    have Hh := Lib.hid h; clear h
    clear hx
    go_enter Try.func83, Try.ntmps83
    go_wp2_with fail
    go_ret
    exact ⟨rfl, Hh.out, World.grownBy.refl _ _⟩

theorem inU8G (g base : Nat) (bs : List UInt8) (x : Int) (w : World) (h : InIs w base g bs x) (hl : bs.length ≤ 1000000000) :
    Calls Try.prog 66 #[.pointer (some ⟨g, 0, none⟩)] w fun e w' =>
      e = .returned (.int .i64 (inNum 1 bs x : Nat)) ∧ InIs w' base g (inTake 1 bs x).2.1 (inTake 1 bs x).2.2 ∧ w.grownBy w' (some g) := by
  have hlt := inNum_lt 1 bs x
  have hle := inTake_length 1 bs x
  unfold inNum at hlt ⊢
  have ht := takeG g base 1 bs x w h hl (by omega)
  generalize inTake 1 bs x = q at hlt hle ht ⊢
  have Ht := Lib.hid ht; clear ht h
  go_enter Try.func66, Try.ntmps66
  go_wp2_with fail
  refine Ht.out.mono ?_
  rintro e w1 ⟨rfl, h1, hb1⟩
  have H1 := Lib.hid h1; clear h1
  go_wp2_with fail
  refine (low_any _ _ (by rw [size_mk]; omega)).mono ?_
  rintro e w2 ⟨rfl, hb2⟩
  go_wp2_with fail
  go_ret
  exact ⟨rfl, H1.out.keptBelow hb2, grown_two hb1 (grown_below hb2)⟩

/-- what is read of bytes that stand ahead of others -/
theorem inTake_app (a b : List UInt8) (n : Nat) (h : a.length = n) : inTake n (a ++ b) 0 = (a, b, 0) := by
  subst h
  rw [inTake_ok (by rw [List.length_append]; omega), List.take_left' rfl, List.drop_left' rfl]
theorem inText_app (s b : List UInt8) (most : Nat) (h : s.length ≤ most) (h2 : s.length < 4294967296) : inText most (textL s ++ b) 0 = (s, b, 0) := by
  have h1 : inTake 4 (textL s ++ b) 0 = (beBytes 4 s.length, s ++ b, 0) := by
    unfold textL; rw [List.append_assoc]; exact inTake_app _ _ 4 (beBytes_length _ _)
  have hn : inNum 4 (textL s ++ b) 0 = s.length := by unfold inNum; rw [h1]; exact beVal_beBytes 4 _ (by simpa using h2)
  unfold inText
  rw [hn, h1, if_neg (by omega)]
  exact inTake_app s b _ rfl
end Go.Proofs.Ytfjilngofdahgaa
