/- chronicleref1.In.End, walked. -/
import Derived.Test.YtfpalamoaflilaaRefIn
import Derived.Test.YtfpalamoaflilaaInEnd
namespace Go.Proofs.Ytfpalamoaflilaa
open Go.RowKit
set_option maxHeartbeats 400000
set_option linter.unusedVariables false

theorem refEnd_any (g base : Nat) (bs : List UInt8) (x : Int) (w : World) (h : RinIs w base g bs x) (hl : bs.length ≤ 1000000000) :
    Calls Try.prog 58 #[.pointer (some ⟨g, 0, none⟩)] w fun e w' => e = .returned (.int .i64 (endL bs x)) ∧ Below base w w' := by
  have hc0 := h.2.cell 0
  have hc1 := h.2.cell 1
  simp at hc0 hc1
  have hf1 := h.2.free 1
  have hsz : (⟨bs.toArray⟩ : ByteArray).size = bs.length := size_mk bs
  unfold endL
  by_cases hx : x = 0
  · subst hx
    by_cases h0 : 0 < bs.length
    · rw [if_pos ⟨rfl, h0⟩]
      have Hh := Lib.hid h; clear h
      go_enter Try.func58, Try.ntmps58
      go_wp2_with fail
      go_ret
      exact ⟨rfl, (Below.refl _ _).setCell (by exact Hh.out.1) _⟩
    · rw [if_neg (fun hh => h0 hh.2)]
      have h0' : bs.length ≤ 0 := by omega
      clear h h0
      go_enter Try.func58, Try.ntmps58
      go_wp2_with fail
      go_ret
      exact ⟨rfl, Below.refl _ _⟩
  · rw [if_neg (fun hh => hx hh.1)]
    have hx' : (x == 0) = false := by simpa using hx
    clear h hx
    go_enter Try.func58, Try.ntmps58
    go_wp2_with fail
    go_ret
    exact ⟨rfl, Below.refl _ _⟩
end Go.Proofs.Ytfpalamoaflilaa
