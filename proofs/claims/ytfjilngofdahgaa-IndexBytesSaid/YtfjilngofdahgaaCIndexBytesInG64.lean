/- codec.In: numbers of eight bytes read, and nothing else of memory is changed. -/
import Derived.Test.YtfjilngofdahgaaCIndexBytesInG
import Derived.Test.YtfjilngofdahgaaCIndexBytesNum64

namespace Go.Proofs.Ytfjilngofdahgaa
open Go.RowKit
set_option maxHeartbeats 1000000
set_option maxRecDepth 100000
set_option linter.unusedVariables false

theorem inU64G (g base : Nat) (bs : List UInt8) (x : Int) (w : World) (h : InIs w base g bs x) (hl : bs.length ≤ 1000000000) :
    Calls Try.prog 94 #[.pointer (some ⟨g, 0, none⟩)] w fun e w' =>
      e = .returned (.int .u64 (inNum 8 bs x : Nat)) ∧ InIs w' base g (inTake 8 bs x).2.1 (inTake 8 bs x).2.2 ∧ w.grownBy w' (some g) := by
  have hle := inTake_length 8 bs x
  unfold inNum
  have ht := takeG g base 8 bs x w h hl (by omega)
  generalize inTake 8 bs x = q at hle ht ⊢
  have Ht := Lib.hid ht; clear ht h
  go_enter Try.func94, Try.ntmps94
  go_wp2_with fail
  refine Ht.out.mono ?_
  rintro e w1 ⟨rfl, h1, hb1⟩
  have H1 := Lib.hid h1; clear h1
  go_wp2_with fail
  refine (low_any _ _ (by rw [size_mk]; omega)).mono ?_
  rintro e w2 ⟨rfl, hb2⟩
  go_wp2_with fail
  go_ret
  exact ⟨rfl, H1.out.keptBelow hb2, grown_two hb1 (grown_below hb2)⟩

theorem inI64G (g base : Nat) (bs : List UInt8) (x : Int) (w : World) (h : InIs w base g bs x) (hl : bs.length ≤ 1000000000) :
    Calls Try.prog 93 #[.pointer (some ⟨g, 0, none⟩)] w fun e w' =>
      e = .returned (.int .i64 (i64L (inTake 8 bs x).1)) ∧ InIs w' base g (inTake 8 bs x).2.1 (inTake 8 bs x).2.2 ∧ w.grownBy w' (some g) := by
  have ht := inU64G g base bs x w h hl
  unfold inNum at ht
  unfold i64L
  generalize inTake 8 bs x = q at ht ⊢
  have Ht := Lib.hid ht; clear ht h
  go_enter Try.func93, Try.ntmps93
  go_wp2_with fail
  refine Ht.out.mono ?_
  rintro e w1 ⟨rfl, h1, hb1⟩
  have H1 := Lib.hid h1; clear h1
  go_wp2_with fail
  go_ret
  exact ⟨rfl, H1.out, hb1⟩
end Go.Proofs.Ytfjilngofdahgaa
