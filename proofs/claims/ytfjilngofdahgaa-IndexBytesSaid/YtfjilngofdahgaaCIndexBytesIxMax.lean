/- slices.Max of ints; a row of one's own under what writes to an Out. -/
import Derived.Test.YtfjilngofdahgaaJIndexBytes1
import Derived.Test.YtfjilngofdahgaaCIndexBytesOutS

namespace Go.Proofs.Ytfjilngofdahgaa
open Go.RowKit
set_option maxHeartbeats 2000000
set_option maxRecDepth 100000
set_option linter.unusedVariables false

def maxL : List Int → Int
  | [] => 0
  | z :: l => l.foldl max z
theorem maxL_snoc {l : List Int} (h : 0 < l.length) (x : Int) : maxL (l ++ [x]) = max (maxL l) x := by
  cases l with
  | nil => simp at h
  | cons z l => simp [maxL]
theorem maxL_any (z b : Int) (l : List Int) : decide (b < l.foldl max z) = (decide (b < z) || l.any fun c => decide (b < c)) := by
  induction l generalizing z with
  | nil => rw [List.foldl_nil, List.any_nil, Bool.or_false]
  | cons y l ih =>
    rw [List.foldl_cons, ih, List.any_cons, ← Bool.or_assoc]
    congr 1
    rw [Bool.eq_iff_iff]
    simp only [Bool.or_eq_true, decide_eq_true_eq]
    omega
theorem maxL_over (l : List Int) (b : Int) (h : 0 < l.length) : decide (b < maxL l) = l.any fun c => decide (b < c) := by
  cases l with
  | nil => simp at h
  | cons z l => exact maxL_any z b l
theorem own_typ {w w' : World} {base b n c : Nat} {e : TypeId} {v : Value} {xs : List Value} (h : w.ownsRow b e c v n xs) (hs : OutStep base w w') (n1 : e ≠ 80) (n2 : e ≠ 5) : w'.ownsRow b e c v n xs := by
  refine ⟨h.1, ?_⟩
  rcases h.2 with h0 | ⟨g', cap, cur, hvv, hbg, hh, rest⟩
  · exact .inl h0
  · exact .inr ⟨g', cap, cur, hvv, hbg, (hs.typ g' _ _ _ hh n1 n2).trans hh, rest⟩

theorem sMax_any (A : Option Addr) (n c B : Nat) (ls : List Int) (w : World) (hr : SlR w B 1 A n (intVs ls)) (h0 : 0 < n) (hn : n ≤ 1000000) :
    Calls Try.prog 50 #[.slice A n c] w fun e w' => e = .returned (.int .i64 (maxL ls)) ∧ w = w' := by
  have hm1 : ∀ a b : Int, (if a < b then b else a) = max a b := fun a b => by omega
  have hl : ls.length = n := intVs_len hr
  have hat : ∀ k, k < n → ∃ ad z, A = some ad ∧ ls[k]? = some z ∧ w.cell? (ad.add k) = some (.int .i64 z) := fun k hk => by
    obtain ⟨ad, v, hA, _, hx, hc⟩ := hr.get hk
    rw [show (intVs ls)[k]? = (ls[k]?).map (fun z => Value.int .i64 z) from by unfold intVs; rw [List.getElem?_map]] at hx
    cases hzz : ls[k]? with
    | none => rw [hzz] at hx; cases hx
    | some z => rw [hzz] at hx; injection hx with hx; exact ⟨ad, z, hA, rfl, by rw [hc, ← hx]⟩
  obtain ⟨ad, z0, rfl, hz0, hc0⟩ := hat 0 h0
  have hcz : w.cell? ad = some (.int .i64 z0) := by rw [show ad.add 0 = ad from (by unfold Addr.add; split <;> simp_all)] at hc0; exact hc0
  have hmax0 : maxL (ls.take 1) = z0 := by rw [List.take_succ_eq_append_getElem (by omega)]; simp only [List.take_zero, List.nil_append, maxL, List.foldl_nil]; rw [List.getElem?_eq_getElem (by omega)] at hz0; injection hz0
  have Hat := Lib.hid hat; have Hl := Lib.hid hl; have Hmax0 := Lib.hid hmax0
  have h0' : ¬ ((n : Int) < 1) := by omega
  clear hr hl hat hz0 hc0 hmax0
  go_enter Try.func50, Try.ntmps50
  go_wp2_with fail
  go_loopw [3, 4] (fun m i wr => ∃ k : Nat, 1 ≤ k ∧ k ≤ n ∧ i = .int .i64 (k : Int) ∧ m = .int .i64 (maxL (ls.take k)) ∧ wr = w) (fun _ i _ => n - (intOf i).toNat)
  case atStart => exact ⟨1, Nat.le_refl _, h0, rfl, by rw [Hmax0.out], rfl⟩
  case round =>
    obtain ⟨k, hk1, hk, rfl, rfl, rfl⟩ := hrel
    by_cases hlt : k < n
    · obtain ⟨ad2, z, hA, hz, hc⟩ := Hat.out k hlt
      injection hA with hA
      subst hA
      have hlt' : (k : Int) < (n : Int) := by omega
      have hst : maxL (ls.take (k + 1)) = max (maxL (ls.take k)) z := by
        obtain ⟨hk2, hx⟩ := List.getElem?_eq_some_iff.1 hz
        rw [List.take_succ_eq_append_getElem hk2, hx, maxL_snoc (by rw [List.length_take]; omega)]
      have Hst := Lib.hid hst
      clear hst hz
      go_wp2_with fail
      go_roundw
      case rel => exact ⟨k + 1, by omega, by omega, by go_num, by rw [Hst.out], trivial⟩
      case measure => simp [intOf]; omega
    · obtain rfl : k = n := by omega
      have hfull : ls.take k = ls := List.take_of_length_le (by have := Hl.out; omega)
      rw [hfull]
      clear hlt hfull
      go_wp2_with fail
      go_ret
      exact ⟨rfl, rfl⟩
end Go.Proofs.Ytfjilngofdahgaa
