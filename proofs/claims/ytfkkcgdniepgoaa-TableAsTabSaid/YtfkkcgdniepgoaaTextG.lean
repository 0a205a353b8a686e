/- codec.In: texts read, and nothing else of memory is changed. -/
import Derived.Test.YtfkkcgdniepgoaaInG
namespace Go.Proofs.Ytfkkcgdniepgoaa
open Go.RowKit
set_option maxHeartbeats 1000000
set_option maxRecDepth 100000
set_option linter.unusedVariables false

theorem inU32G (g base : Nat) (bs : List UInt8) (x : Int) (w : World) (h : InIs w base g bs x) (hl : bs.length ≤ 1000000000) :
    Calls Try.prog 32 #[.pointer (some ⟨g, 0, none⟩)] w fun e w' =>
      e = .returned (.int .i64 (inNum 4 bs x : Nat)) ∧ InIs w' base g (inTake 4 bs x).2.1 (inTake 4 bs x).2.2 ∧ w.grownBy w' (some g) := by
  have hlt := inNum_lt 4 bs x
  have hle := inTake_length 4 bs x
  unfold inNum at hlt ⊢
  have ht := takeG g base 4 bs x w h hl (by omega)
  generalize inTake 4 bs x = q at hlt hle ht ⊢
  have Ht := Lib.hid ht; clear ht h
  go_enter Try.func32, Try.ntmps32
  go_wp2_with fail
  refine Ht.out.mono ?_
  rintro e w1 ⟨rfl, h1, hb1⟩
  have H1 := Lib.hid h1; clear h1
  go_wp2_with fail
  refine (low_any _ _ (by rw [size_mk]; omega)).mono ?_
  rintro e w2 ⟨rfl, hb2⟩
  go_wp2_with fail
  go_ret
  exact ⟨rfl, H1.out.keptBelow hb2, grown_two hb1 (grown_below hb2)⟩

theorem inErrG (g base : Nat) (bs : List UInt8) (x : Int) (w : World) (h : InIs w base g bs x) :
    Calls Try.prog 33 #[.pointer (some ⟨g, 0, none⟩)] w fun e w' => e = .returned (.int .i64 x) ∧ w = w' := inErr_any g base bs x w h
end Go.Proofs.Ytfkkcgdniepgoaa
