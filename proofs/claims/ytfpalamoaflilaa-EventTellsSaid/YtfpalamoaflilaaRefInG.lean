/- chronicleref1.In: Num, End: just its own block is written. -/
import Derived.Test.YtfpalamoaflilaaRefInEnd
namespace Go.Proofs.Ytfpalamoaflilaa
open Go.RowKit
set_option maxHeartbeats 400000
set_option linter.unusedVariables false

theorem grownReflR (w : World) (row : Option Nat) : w.grownBy w row := ⟨rfl, rfl, rfl, Nat.le_refl _, fun _ _ _ => rfl⟩
theorem grownSetR (w : World) (g i : Nat) (u : Value) : w.grownBy (w.setCell ⟨g, i, none⟩ u) (some g) :=
  ⟨rfl, rfl, rfl, by simp [World.setCell], fun k _ hne => Below.heap_setCell w ⟨g, i, none⟩ u k (fun e => hne (by rw [e]))⟩

theorem refInfailG (g base : Nat) (bs : List UInt8) (x : Int) (w : World) (h : RinIs w base g bs 0) :
    Calls Try.prog 81 #[.pointer (some ⟨g, 0, none⟩), .int .i64 x] w fun e w' => e = .returned (.tuple #[]) ∧ RinIs w' base g bs x ∧ w.grownBy w' (some g) := by
  have hc := h.2.cell 1
  simp at hc
  have hf := h.2.free 1
  have Hh := Lib.hid h; clear h
  go_enter Try.func81, Try.ntmps81
  go_wp2
  go_end0
  exact ⟨rfl, ⟨Hh.out.1, Hh.out.2.put 1 _⟩, grownSetR _ _ _ _⟩

theorem refInNumG (g base k : Nat) (bs : List UInt8) (x : Int) (w : World) (h : RinIs w base g bs x) (hl : bs.length ≤ 1000000000) (hk : k ≤ 8) :
    Calls Try.prog 57 #[.pointer (some ⟨g, 0, none⟩), .int .i64 (k : Int)] w fun e w' =>
      e = .returned (.int .u64 (inNum k bs x : Nat)) ∧ RinIs w' base g (inTake k bs x).2.1 (inTake k bs x).2.2 ∧ w.grownBy w' (some g) := by
  have hc0 := h.2.cell 0
  have hc1 := h.2.cell 1
  simp at hc0 hc1
  have hf0 := h.2.free 0
  unfold inNum
  by_cases hx : x = 0
  · subst hx
    by_cases hlt : k ≤ bs.length
    · rw [inTake_ok hlt]
      simp only []
      have Hh := Lib.hid h; clear h
      have hsz : (⟨bs.toArray⟩ : ByteArray).size = bs.length := size_mk bs
      have hlt' : (k : Int) ≤ (bs.length : Int) := by omega
      go_enter Try.func57, Try.ntmps57
      go_wp2_with fail
      go_loop [5, 6] (fun v i => ∃ m : Nat, m ≤ k ∧ i = .int .i64 m ∧ v = .int .u64 (beVal (bs.take m) : Nat)) (fun _ i => k - (intOf i).toNat)
      case atStart => exact ⟨0, Nat.zero_le _, rfl, rfl⟩
      case round =>
        obtain ⟨m, hm, rfl, rfl⟩ := hrel
        generalize hv : beVal (bs.take m) = v
        by_cases hlm : m < k
        · have hml : m < bs.length := by omega
          have hvl : v < 72057594037927936 := by
            rw [← hv]
            have h1 := beVal_lt (bs.take m)
            rw [List.length_take] at h1
            have h2 : 256 ^ (min m bs.length) ≤ 256 ^ 7 := Nat.pow_le_pow_right (by decide) (by omega)
            omega
          have hadd := add_byte v bs[m] hvl
          have hstep : beVal (bs.take (m + 1)) = v * 256 + bs[m].toNat := by
            rw [List.take_succ_eq_append_getElem hml, beVal_snoc, hv]
          have Hv := Lib.hid hv; have Hstep := Lib.hid hstep; have Hadd := Lib.hid hadd
          clear hv hstep hadd
          go_wp2_with fail
          go_round
          case rel =>
            refine ⟨m + 1, by omega, by go_num, int_eq ?_⟩
            have hc := bs[m].toNat_lt
            rw [Hstep.out, ← Hadd.out, IntWalk.u64_in ((⟨bs.toArray⟩ : ByteArray)[m].toNat : Int) (by have : (⟨bs.toArray⟩ : ByteArray)[m].toNat < 256 := UInt8.toNat_lt _; omega)]
            rfl
          case measure => simp [intOf]; omega
        · obtain rfl : m = k := by omega
          have Hv := Lib.hid hv; clear hv
          go_wp2_with fail
          go_ret
          have e2 : (⟨bs.toArray⟩ : ByteArray).extract m bs.length = ⟨(bs.drop m).toArray⟩ := by rw [← size_mk bs]; exact str_from _ _
          refine ⟨by rw [Hv.out]; rfl, ⟨Hh.out.1, ?_⟩, grownSetR _ _ _ _⟩
          have := Hh.out.2.put 0 (.string ((⟨bs.toArray⟩ : ByteArray).extract m bs.length))
          rw [e2] at this ⊢
          exact this
    · rw [inTake_short (by omega)]
      simp only []
      have Hh := Lib.hid h; clear h
      have hlt' : (bs.length : Int) < (k : Int) := by omega
      go_enter Try.func57, Try.ntmps57
      go_wp2_with fail
      refine (refInfailG g base bs 5 _ Hh.out).mono ?_
      rintro e w1 ⟨rfl, h1, hb1⟩
      go_wp2_with fail
      go_ret
      exact ⟨rfl, h1, hb1⟩
  · rw [inTake_err hx]
    simp only []
    have hx' : (x != 0) = true := by rw [bne_iff_ne]; exact hx
    have Hh := Lib.hid h; clear h
    clear hx
    go_enter Try.func57, Try.ntmps57
    go_wp2_with fail
    go_ret
    exact ⟨rfl, Hh.out, grownReflR _ _⟩

theorem refEndG (g base : Nat) (bs : List UInt8) (x : Int) (w : World) (h : RinIs w base g bs x) (hl : bs.length ≤ 1000000000) :
    Calls Try.prog 58 #[.pointer (some ⟨g, 0, none⟩)] w fun e w' => e = .returned (.int .i64 (endL bs x)) ∧ w.grownBy w' (some g) := by
  have hc0 := h.2.cell 0
  have hc1 := h.2.cell 1
  simp at hc0 hc1
  have hf1 := h.2.free 1
  have hsz : (⟨bs.toArray⟩ : ByteArray).size = bs.length := size_mk bs
  unfold endL
  by_cases hx : x = 0
  · subst hx
    by_cases h0 : 0 < bs.length
    · rw [if_pos ⟨rfl, h0⟩]
      have Hh := Lib.hid h; clear h
      go_enter Try.func58, Try.ntmps58
      go_wp2_with fail
      go_ret
      exact ⟨rfl, grownSetR _ _ _ _⟩
    · rw [if_neg (fun hh => h0 hh.2)]
      have h0' : bs.length ≤ 0 := by omega
      clear h h0
      go_enter Try.func58, Try.ntmps58
      go_wp2_with fail
      go_ret
      exact ⟨rfl, grownReflR _ _⟩
  · rw [if_neg (fun hh => hx hh.1)]
    have hx' : (x == 0) = false := by simpa using hx
    clear h hx
    go_enter Try.func58, Try.ntmps58
    go_wp2_with fail
    go_ret
    exact ⟨rfl, grownReflR _ _⟩
end Go.Proofs.Ytfpalamoaflilaa
