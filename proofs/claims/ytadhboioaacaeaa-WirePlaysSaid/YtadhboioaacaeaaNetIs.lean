/- The net: is, Len, Peek, Clear, of a nil net too. -/
import Derived.Test.YtadhboioaacaeaaNetDel
namespace Go.Proofs.Ytadhboioaacaeaa
open Go.RowKit
set_option maxHeartbeats 2000000
set_option maxRecDepth 100000
set_option linter.unusedVariables false

/-- is there a packet at a place? -/
def hasB (ps : List Pk) (j : Int) : Bool := decide (0 ≤ j ∧ j < (ps.length : Int))
def getP (ps : List Pk) (j : Int) : Pk := if hasB ps j then ps[j.toNat]?.getD (0, 0, ByteArray.empty) else (0, 0, ByteArray.empty)
theorem hasB_yes {ps : List Pk} {j : Nat} (h : j < ps.length) : hasB ps (j : Int) = true := by unfold hasB; simp; omega
theorem hasB_nat {ps : List Pk} {j : Int} (h : hasB ps j = true) : ∃ n : Nat, j = (n : Int) ∧ n < ps.length := by
  unfold hasB at h
  simp at h
  exact ⟨j.toNat, by omega, by omega⟩
theorem getP_yes {ps : List Pk} {j : Nat} {p : Pk} (h : ps[j]? = some p) : getP ps (j : Int) = p := by
  unfold getP
  rw [if_pos (hasB_yes (List.getElem?_eq_some_iff.1 h).1), Int.toNat_natCast, h]; rfl

theorem is_nil (j : Int) (w : World) : Calls Try.prog 28 #[.pointer none, .int .i64 j] w fun e w' => e = .returned (.bool false) ∧ w = w' := by
  go_enter Try.func28, Try.ntmps28
  go_wp2_with fail
  go_ret
  exact ⟨rfl, rfl⟩
theorem is_any (S : Nat → Prop) (g k : Nat) (ps : List Pk) (C : Int → Int → Bool) (j : Int) (w : World) (h : NetIs w S g ps k C) :
    Calls Try.prog 28 #[.pointer (some ⟨g, 0, none⟩), .int .i64 j] w fun e w' => e = .returned (.bool (hasB ps j)) ∧ w = w' := by
  obtain ⟨v, r, D, hB, hr, _⟩ := h
  have hc0 := hB.cell 0
  obtain ⟨A, c, rfl, hnc⟩ := own_slice hr
  simp at hc0
  clear hB hr
  by_cases h1 : 0 ≤ j
  · by_cases h2 : j < (ps.length : Int)
    · have hv : hasB ps j = true := by unfold hasB; simp; omega
      rw [hv]
      have d1 : decide (0 ≤ j) = true := by simpa using h1
      have d2 : decide (j < (ps.length : Int)) = true := by simpa using h2
      clear hv
      go_enter Try.func28, Try.ntmps28
      go_wp2_with fail
      go_ret
      exact ⟨rfl, rfl⟩
    · have hv : hasB ps j = false := by unfold hasB; simp; omega
      rw [hv]
      have d1 : decide (0 ≤ j) = true := by simpa using h1
      have d2 : decide (j < (ps.length : Int)) = false := by simpa using h2
      clear hv
      go_enter Try.func28, Try.ntmps28
      go_wp2_with fail
      go_ret
      exact ⟨rfl, rfl⟩
  · have hv : hasB ps j = false := by unfold hasB; simp; omega
    rw [hv]
    have d1 : decide (0 ≤ j) = false := by simpa using h1
    clear hv
    go_enter Try.func28, Try.ntmps28
    go_wp2_with fail
    go_ret
    exact ⟨rfl, rfl⟩

theorem len_nil (w : World) : Calls Try.prog 12 #[.pointer none] w fun e w' => e = .returned (.int .i64 0) ∧ w = w' := by
  go_enter Try.func12, Try.ntmps12
  go_wp2_with fail
  go_ret
  exact ⟨rfl, rfl⟩
theorem len_any (S : Nat → Prop) (g k : Nat) (ps : List Pk) (C : Int → Int → Bool) (w : World) (h : NetIs w S g ps k C) :
    Calls Try.prog 12 #[.pointer (some ⟨g, 0, none⟩)] w fun e w' => e = .returned (.int .i64 (ps.length : Int)) ∧ w = w' := by
  obtain ⟨v, r, D, hB, hr, _⟩ := h
  have hc0 := hB.cell 0
  obtain ⟨A, c, rfl, hnc⟩ := own_slice hr
  simp at hc0
  clear hB hr
  go_enter Try.func12, Try.ntmps12
  go_wp2_with fail
  go_ret
  exact ⟨rfl, rfl⟩

theorem clear_nil (w : World) : Calls Try.prog 15 #[.pointer none] w fun e w' => e = .returned (.int .i64 0) ∧ w = w' := by
  go_enter Try.func15, Try.ntmps15
  go_wp2_with fail
  refine (len_nil _).mono ?_
  rintro e w1 ⟨rfl, rfl⟩
  go_wp2_with fail
  go_ret
  exact ⟨rfl, rfl⟩
theorem clear_any (S : Nat → Prop) (g k : Nat) (ps : List Pk) (C : Int → Int → Bool) (w : World) (h : NetIs w S g ps k C) :
    Calls Try.prog 15 #[.pointer (some ⟨g, 0, none⟩)] w fun e w' => e = .returned (.int .i64 (ps.length : Int)) ∧ NetStep S g w w' [] k C := by
  have hl := len_any S g k ps C w h
  have Hl := Lib.hid hl
  obtain ⟨v, r, D, hB, hr, hm, hD, s1, s2, s3⟩ := id h
  have hf0 := hB.free 0
  have hc0 := hB.cell 0
  simp at hc0
  have hc0 : w.cell? ⟨g, 0, none⟩ = some v := hc0
  by_cases h0 : ps.length = 0
  · have e0 : ps = [] := List.eq_nil_of_length_eq_zero h0
    subst e0
    have hfin : NetStep S g w w [] k C := NetIs.same h (Below.refl _ _)
    clear h hB hr hm hD s1 s2 s3 hl h0
    have Hf := Lib.hid hfin; clear hfin
    go_enter Try.func15, Try.ntmps15
    go_wp2_with fail
    refine Hl.out.mono ?_
    rintro e w1 ⟨rfl, rfl⟩
    go_wp2_with fail
    go_ret
    exact ⟨rfl, Hf.out⟩
  · have hp : (0 : Int) < (ps.length : Int) := by omega
    have hfin : NetStep S g w (w.setCell ⟨g, 0, none⟩ (.slice none 0 0)) [] k C :=
      netStep_row hB hr hm hD s1 s2 s3 (Chg.refl _ _) (World.grownBy.refl w _) (World.ownsRow_nil _ _ _ _) (fun b hb => by simp [Value.ownBlock] at hb)
    clear h hB hr hm hD s1 s2 s3 hl h0
    have Hf := Lib.hid hfin; clear hfin
    go_enter Try.func15, Try.ntmps15
    go_wp2_with fail
    refine Hl.out.mono ?_
    rintro e w1 ⟨rfl, rfl⟩
    go_wp2_with fail
    go_ret
    exact ⟨rfl, Hf.out⟩

theorem peek_nil (j : Int) (w : World) : Calls Try.prog 25 #[.pointer none, .int .i64 j] w fun e w' => e = .returned (.tuple #[pkA (0, 0, ByteArray.empty), .bool false]) ∧ Below w.heap.size w w' := by
  go_enter Try.func25, Try.ntmps25
  go_wp2_with fail
  refine (is_nil j _).mono ?_
  rintro e w1 ⟨rfl, rfl⟩
  go_wp2_with fail
  exact bodyPost_ret (v := .tuple #[pkA (0, 0, ByteArray.empty), .bool false]) (by simp [results, Try.results25, go_sem, pkA]; rfl) rfl ⟨rfl, (Below.refl _ _).alloc (Nat.le_refl _) _⟩
theorem peek_any (S : Nat → Prop) (g k : Nat) (ps : List Pk) (C : Int → Int → Bool) (j : Int) (w : World) (h : NetIs w S g ps k C) (hlen : ps.length ≤ 1000000) :
    Calls Try.prog 25 #[.pointer (some ⟨g, 0, none⟩), .int .i64 j] w fun e w' => e = .returned (.tuple #[pkA (getP ps j), .bool (hasB ps j)]) ∧ Below w.heap.size w w' := by
  have hi := is_any S g k ps C j (w.alloc (.cells #[.int .i64 0, .int .i64 0, .string ByteArray.empty] 28)) (h.alloc _)
  cases hb : hasB ps j with
  | false =>
    rw [hb] at hi
    have hv : getP ps j = (0, 0, ByteArray.empty) := by unfold getP; rw [hb]; rfl
    rw [hv]
    have Hi := Lib.hid hi
    clear h hv hi hb
    go_enter Try.func25, Try.ntmps25
    go_wp2_with fail
    refine Hi.out.mono ?_
    rintro e w1 ⟨rfl, rfl⟩
    go_wp2_with fail
    exact bodyPost_ret (v := .tuple #[pkA (0, 0, ByteArray.empty), .bool false]) (by simp [results, Try.results25, go_sem, pkA]; rfl) rfl ⟨rfl, (Below.refl _ _).alloc (Nat.le_refl _) _⟩
  | true =>
    rw [hb] at hi
    obtain ⟨n, rfl, hn⟩ := hasB_nat hb
    obtain ⟨p, hp⟩ : ∃ p, ps[n]? = some p := ⟨_, List.getElem?_eq_getElem hn⟩
    rw [getP_yes hp]
    obtain ⟨x, y, s⟩ := p
    obtain ⟨v, r, D, hB, hr, _⟩ := id h
    have hg := hB.lt
    have hc0 := hB.cell 0
    simp at hc0
    obtain ⟨q, c, rfl, _, hq⟩ := hr.form (by omega)
    have k0 := (hr.cellAt (n * 3) (by omega)).trans (pkVs_get ps n 0 _ hp (by omega))
    have k1 := (hr.cellAt (n * 3 + 1) (by omega)).trans (pkVs_get ps n 1 _ hp (by omega))
    have k2 := (hr.cellAt (n * 3 + 2) (by omega)).trans (pkVs_get ps n 2 _ hp (by omega))
    simp [pkC] at k0 k1 k2
    have Hi := Lib.hid hi
    have hn0 : (0 : Int) ≤ (n : Int) := by omega
    have hn1 : (n : Int) < (ps.length : Int) := by omega
    clear h hi hb hp hB hr
    go_enter Try.func25, Try.ntmps25
    go_wp2_with fail
    refine Hi.out.mono ?_
    rintro e w1 ⟨rfl, rfl⟩
    go_wp2_with fail
    exact bodyPost_ret (v := .tuple #[pkA (x, y, s), .bool true]) (by simp [results, Try.results25, go_sem, pkA]) rfl ⟨rfl, (Below.refl _ _).alloc (Nat.le_refl _) _⟩
end Go.Proofs.Ytadhboioaacaeaa
