/- chapter 12: the tab: what it is; New, Len, All, Find, Range. -/
import Derived.Test.YtfjilngofdahgaaTabClone
namespace Go.Proofs.Ytfjilngofdahgaa
open Go.RowKit
set_option maxHeartbeats 2000000
set_option maxRecDepth 100000
set_option linter.unusedVariables false
attribute [local go_sem] Lib.run_eql_slice_nil

/-- a tab at block T, its row in block r (if it has one) -/
def TabIs (w : World) (base T : Nat) (r : Option Nat) (l : List En) : Prop :=
  ∃ v, BlkIs w T 59 #[v] ∧ w.ownsRow base 27 3 v l.length (enVs l) ∧ v.ownBlock = r ∧ r ≠ some T

theorem new_any (w : World) : Calls Try.prog 14 #[] w fun x w' => x = .returned (.pointer (some ⟨w.heap.size, 0, none⟩)) ∧ (∀ base, TabIs w' base w.heap.size none []) ∧ Below w.heap.size w w' := by
  go_enter Try.func14, Try.ntmps14
  go_wp2_with fail
  go_ret
  exact ⟨rfl, fun base => ⟨_, BlkIs.new _ _ _, World.ownsRow_nil _ _ _ _, rfl, by simp⟩, (Below.refl _ _).alloc (Nat.le_refl _) _⟩

theorem len_any (base T : Nat) (r : Option Nat) (l : List En) (w : World) (h : TabIs w base T r l) (hn : l.length ≤ 1000000) :
    Calls Try.prog 26 #[.pointer (some ⟨T, 0, none⟩)] w fun x w' => x = .returned (.int .i64 (l.length : Int)) ∧ w = w' := by
  obtain ⟨v, hB, hr, _⟩ := h
  have hc0 := hB.cell 0
  obtain ⟨A, c, rfl, hnc⟩ := own_slice hr
  simp at hc0
  clear hB hr
  go_enter Try.func26, Try.ntmps26
  go_wp2_with fail
  go_ret
  exact ⟨rfl, rfl⟩

theorem all_any (base T : Nat) (r : Option Nat) (l : List En) (w : World) (h : TabIs w base T r l) (hn : l.length ≤ 1000000) :
    Calls Try.prog 38 #[.pointer (some ⟨T, 0, none⟩)] w fun x w' => ∃ u, x = .returned u ∧ w'.ownsRow w.heap.size 27 3 u l.length (enVs l) ∧ Below w.heap.size w w' := by
  obtain ⟨v, hB, hr, _⟩ := h
  have hc0 := hB.cell 0
  obtain ⟨A, c, rfl, hnc⟩ := own_slice hr
  simp at hc0
  have hnil : A = none → l.length = 0 ∧ c = 0 := by
    rintro rfl
    rcases hr.2 with ⟨h1, h2⟩ | ⟨g, cap, cur, h1, _⟩
    · injection h1 with h3 h4 h5; exact ⟨h2, h5⟩
    · injection h1 with h3; cases h3
  have hcl := clone_any A l.length c w.heap.size l w (SlR.own hr) (Nat.le_refl _) hn hnil
  clear hB hr
  go_enter Try.func38, Try.ntmps38
  go_wp2_with (go_at_call 61; refine hcl.mono ?_; rintro x w1 ⟨u, rfl, hown1, hb1⟩)
  go_ret
  exact ⟨u, rfl, hown1, hb1⟩

theorem find_any (base T : Nat) (r : Option Nat) (l : List En) (h v : Int) (w : World) (ht : TabIs w base T r l) (hn : l.length ≤ 1000000) :
    Calls Try.prog 25 #[.pointer (some ⟨T, 0, none⟩), .int .i64 h, .int .i64 v] w fun x w' => ∃ u, x = .returned u ∧ w'.ownsRow w.heap.size 3 1 u (findE l h v).length (intVs (findE l h v)) ∧ Below w.heap.size w w' := by
  have hal := all_any base T r l w ht hn
  have hpl := fun A n c w (hr : SlR w w.heap.size 3 A n (enVs l)) hn => places_any A n c w.heap.size l h v w hr (Nat.le_refl _) hn
  have Hpl := Lib.hid hpl
  clear ht hpl
  go_enter Try.func25, Try.ntmps25
  go_wp2_with (first
    | (go_at_call 38; refine hal.mono ?_; rintro x w1 ⟨u, rfl, hown1, hb1⟩; obtain ⟨A, c, rfl, hnc⟩ := own_slice hown1; have hr1 := SlR.own hown1)
    | (go_at_call 42; refine (Hpl.out _ _ _ _ hr1 hn).mono ?_; rintro x w2 ⟨u2, rfl, hown2, hb2⟩))
  go_ret
  exact ⟨u2, rfl, own_mono hown2 hb1.size, hb1.trans (hb2.mono hb1.size)⟩

theorem range_any (base T : Nat) (r : Option Nat) (l : List En) (h a b : Int) (w : World) (ht : TabIs w base T r l) (hn : l.length ≤ 1000000) :
    Calls Try.prog 22 #[.pointer (some ⟨T, 0, none⟩), .int .i64 h, .int .i64 a, .int .i64 b] w fun x w' => ∃ u, x = .returned u ∧ w'.ownsRow w.heap.size 27 3 u (rangeE l h a b).length (enVs (rangeE l h a b)) ∧ Below w.heap.size w w' := by
  have hal := all_any base T r l w ht hn
  have hpl := fun A n c w (hr : SlR w w.heap.size 3 A n (enVs l)) hn => between_any A n c w.heap.size l h a b w hr (Nat.le_refl _) hn
  have Hpl := Lib.hid hpl
  clear ht hpl
  go_enter Try.func22, Try.ntmps22
  go_wp2_with (first
    | (go_at_call 38; refine hal.mono ?_; rintro x w1 ⟨u, rfl, hown1, hb1⟩; obtain ⟨A, c, rfl, hnc⟩ := own_slice hown1; have hr1 := SlR.own hown1)
    | (go_at_call 41; refine (Hpl.out _ _ _ _ hr1 hn).mono ?_; rintro x w2 ⟨u2, rfl, hown2, hb2⟩))
  go_ret
  exact ⟨u2, rfl, own_mono hown2 hb1.size, hb1.trans (hb2.mono hb1.size)⟩
end Go.Proofs.Ytfjilngofdahgaa
