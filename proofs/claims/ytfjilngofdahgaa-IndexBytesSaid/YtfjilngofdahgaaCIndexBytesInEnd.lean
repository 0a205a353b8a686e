/- codec.In: Err, Left, End. -/
import Derived.Test.YtfjilngofdahgaaCIndexBytesIn

namespace Go.Proofs.Ytfjilngofdahgaa
open Go.RowKit
set_option maxHeartbeats 400000
set_option linter.unusedVariables false

/-- nothing is left behind the end -/
def endL (bs : List UInt8) (x : Int) : Int := if x = 0 ∧ 0 < bs.length then 6 else x

theorem inErr_any (g base : Nat) (bs : List UInt8) (x : Int) (w : World) (h : InIs w base g bs x) :
    Calls Try.prog 89 #[.pointer (some ⟨g, 0, none⟩)] w fun e w' => e = .returned (.int .i64 x) ∧ w = w' := by
  have hc1 := h.2.cell 1
  simp at hc1
  clear h
  go_enter Try.func89, Try.ntmps89
  go_wp2_with fail
  go_ret
  exact ⟨rfl, rfl⟩
/-- how many bytes are left -/
def leftL (bs : List UInt8) (x : Int) : Nat := if x = 0 then bs.length else 0
theorem inLeft_any (g base : Nat) (bs : List UInt8) (x : Int) (w : World) (h : InIs w base g bs x) :
    Calls Try.prog 87 #[.pointer (some ⟨g, 0, none⟩)] w fun e w' => e = .returned (.int .i64 (leftL bs x : Nat)) ∧ w = w' := by
  have hc0 := h.2.cell 0
  simp at hc0
  have he := inErr_any g base bs x w h
  have He := Lib.hid he; clear he h
  have hsz : (⟨bs.toArray⟩ : ByteArray).size = bs.length := size_mk bs
  by_cases hx : x = 0
  · subst hx
    have hv : leftL bs 0 = bs.length := rfl
    have Hv := Lib.hid hv; clear hv
    go_enter Try.func87, Try.ntmps87
    go_wp2_with fail
    refine He.out.mono ?_
    rintro e w1 ⟨rfl, rfl⟩
    go_wp2_with fail
    go_ret
    rw [Hv.out]
    exact ⟨rfl, rfl⟩
  · have hv : leftL bs x = 0 := by unfold leftL; rw [if_neg hx]
    have Hv := Lib.hid hv; clear hv
    have hx' : (x != 0) = true := by rw [bne_iff_ne]; exact hx
    clear hx
    go_enter Try.func87, Try.ntmps87
    go_wp2_with fail
    refine He.out.mono ?_
    rintro e w1 ⟨rfl, rfl⟩
    go_wp2_with fail
    go_ret
    rw [Hv.out]
    exact ⟨rfl, rfl⟩
theorem grown_set (w : World) (g i : Nat) (u : Value) : w.grownBy (w.setCell ⟨g, i, none⟩ u) (some g) :=
  ⟨rfl, rfl, rfl, by simp, fun k _ hk => Below.heap_setCell w _ u k (fun e => hk (by rw [e]))⟩
theorem infail_at (g base : Nat) (bs : List UInt8) (x : Int) (w : World) (h : InIs w base g bs 0) :
    Calls Try.prog 88 #[.pointer (some ⟨g, 0, none⟩), .int .i64 x] w fun e w' => e = .returned (.tuple #[]) ∧ w' = w.setCell ⟨g, 1, none⟩ (.int .i64 x) := by
  have hc := h.2.cell 1
  simp at hc
  have hf := h.2.free 1
  clear h
  go_enter Try.func88, Try.ntmps88
  go_wp2
  go_end0
  exact ⟨rfl, rfl⟩
theorem inEnd_any (g base : Nat) (bs : List UInt8) (x : Int) (w : World) (h : InIs w base g bs x) (hl : bs.length ≤ 1000000000) :
    Calls Try.prog 68 #[.pointer (some ⟨g, 0, none⟩)] w fun e w' => e = .returned (.int .i64 (endL bs x)) ∧ w.grownBy w' (some g) ∧ Below base w w' := by
  have hle := inLeft_any g base bs x w h
  by_cases h0 : 0 < leftL bs x
  · have hx : x = 0 := by unfold leftL at h0; split at h0 <;> first | assumption | omega
    subst hx
    have hv : endL bs 0 = 6 := by unfold endL; rw [if_pos ⟨rfl, by simpa [leftL] using h0⟩]
    rw [hv]
    have Hle := Lib.hid hle; have Hh := Lib.hid h
    clear hle hv h
    go_enter Try.func68, Try.ntmps68
    go_wp2_with fail
    refine Hle.out.mono ?_
    rintro e w1 ⟨rfl, rfl⟩
    go_wp2_with fail
    refine (infail_at g base bs 6 _ Hh.out).mono ?_
    rintro e w1 ⟨rfl, rfl⟩
    have H1 : InIs (w.setCell ⟨g, 1, none⟩ (.int .i64 6)) base g bs 6 := ⟨Hh.out.1, Hh.out.2.put 1 _⟩
    have H1 := Lib.hid H1
    go_wp2_with fail
    refine (inErr_any g base bs 6 _ H1.out).mono ?_
    rintro e w2 ⟨rfl, rfl⟩
    go_wp2_with fail
    go_ret
    exact ⟨rfl, grown_set _ _ _ _, (Below.refl _ _).setCell (by exact Hh.out.1) _⟩
  · have hv : endL bs x = x := by
      unfold endL
      rw [if_neg]
      rintro ⟨rfl, h1⟩
      exact h0 (by simpa [leftL] using h1)
    rw [hv]
    have h0' : leftL bs x ≤ 0 := by omega
    have Hle := Lib.hid hle; have Hh := Lib.hid h
    clear hle hv h h0
    go_enter Try.func68, Try.ntmps68
    go_wp2_with fail
    refine Hle.out.mono ?_
    rintro e w1 ⟨rfl, rfl⟩
    go_wp2_with fail
    refine (inErr_any g base bs x _ Hh.out).mono ?_
    rintro e w2 ⟨rfl, rfl⟩
    go_wp2_with fail
    go_ret
    exact ⟨rfl, World.grownBy.refl _ _, Below.refl _ _⟩
end Go.Proofs.Ytfjilngofdahgaa
