/- chapter 13: Len, All. -/
import Derived.Test.YtfjilngofdahgaaCIndexBytesTblOpen
import Derived.Test.YtfjilngofdahgaaJIndexBytes3

namespace Go.Proofs.Ytfjilngofdahgaa
open Go.RowKit
set_option maxHeartbeats 2000000
set_option maxRecDepth 100000
set_option linter.unusedVariables false

theorem TblIs.below {w w' : World} {base g B : Nat} {l : List En} (h : TblIs w base g l) (hb : Below B w w') (hB : w.heap.size ≤ B) : TblIs w' base g l := by
  obtain ⟨v, h1, h2, h3⟩ := h
  exact ⟨v, h1.below hb (Nat.lt_of_lt_of_le h1.lt hB), h2, own_below h3 hb (fun q hq => Nat.lt_of_lt_of_le (h3.lt q hq).2 hB)⟩
theorem TblIs.lt {w : World} {base g : Nat} {l : List En} (h : TblIs w base g l) : g < w.heap.size := by obtain ⟨v, h1, _⟩ := h; exact h1.lt

theorem tblAll_any (base T : Nat) (l : List En) (w : World) (h : TblIs w base T l) (hn : l.length ≤ 1000000) :
    Calls Try.prog 86 #[.pointer (some ⟨T, 0, none⟩)] w fun x w' => ∃ u, x = .returned u ∧ w'.ownsRow w.heap.size 27 3 u l.length (enVs l) ∧ Below w.heap.size w w' := by
  obtain ⟨v, hB, hb, hr⟩ := h
  have hc0 := hB.cell 0
  obtain ⟨A, c, rfl, hnc⟩ := own_slice hr
  simp at hc0
  have hnil : A = none → l.length = 0 ∧ c = 0 := by
    rintro rfl
    rcases hr.2 with ⟨h1, h2⟩ | ⟨g, cap, cur, h1, _⟩
    · injection h1 with h3 h4 h5; exact ⟨h2, h5⟩
    · injection h1 with h3; cases h3
  have hcl := clone_any A l.length c w.heap.size l w (SlR.own hr) (Nat.le_refl _) hn hnil
  clear hB hr
  go_enter Try.func86, Try.ntmps86
  go_wp2_with (go_at_call 61; refine hcl.mono ?_; rintro x w1 ⟨u, rfl, hown1, hb1⟩)
  go_ret
  exact ⟨u, rfl, hown1, hb1⟩
end Go.Proofs.Ytfjilngofdahgaa
