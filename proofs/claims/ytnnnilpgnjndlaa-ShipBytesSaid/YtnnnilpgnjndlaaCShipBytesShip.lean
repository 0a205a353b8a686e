/- package ship: at, Fits, Newest, Join, Back, Agreed, walked. -/
import Derived.Test.YtnnnilpgnjndlaaShipLaw
import Derived.Test.YtnnnilpgnjndlaaCShipBytesInts
import Derived.Test.YtnnnilpgnjndlaaRows
import Derived.WalkKit
import Derived.RegionTactic
import Derived.Deep.QuietTactic
import Derived.BigQuiet

namespace Go.Proofs.Ytnnnilpgnjndlaa
open Go.RowKit
set_option maxHeartbeats 2000000
set_option maxRecDepth 100000
set_option linter.unusedVariables false

/-- the epoch of the last one of the first k -/
def atL (es : List Int) (k : Nat) : Int := if k = 0 then 0 else es[k - 1]?.getD 0

theorem at_any (B n cap k : Nat) (A : Option Addr) (es : List Int) (w : World) (h : SlR w B 1 A n (intVs es)) (hk : k ≤ n) (hn : n ≤ 1000000) :
    Calls Try.prog 39 #[.slice A n cap, .int .i64 (k : Int)] w fun e w' => e = .returned (.int .i64 (atL es k)) ∧ w = w' := by
  cases k with
  | zero =>
    clear h
    go_enter Try.func39, Try.ntmps39
    go_wp2
    go_ret
    exact ⟨rfl, rfl⟩
  | succ j =>
    obtain ⟨ad, u, hA, had, hu, hcell⟩ := h.get (show j < n by omega)
    subst hA
    obtain ⟨z, hz, rfl⟩ := intVs_get hu
    have hv : atL es (j + 1) = z := by unfold atL; rw [if_neg (by omega), Nat.add_sub_cancel, hz]; rfl
    rw [hv]
    have i1 : (j : Int) < (n : Int) := by omega
    have i0 : 0 ≤ (j : Int) := by omega
    have e1 : (((j + 1 : Nat) : Int) - 1) = (j : Int) := by omega
    clear h hu hz hv had
    go_enter Try.func39, Try.ntmps39
    go_wp2
    go_ret
    exact ⟨rfl, rfl⟩

/-- do entries fit behind some first ones? -/
def fitsB (es : List Int) (l epoch : Int) : Bool := decide (l = 0 ∨ 0 < l ∧ l ≤ (es.length : Int) ∧ atL es l.toNat = epoch)
theorem fits_any (B n cap : Nat) (A : Option Addr) (es : List Int) (l epoch : Int) (w : World) (h : SlR w B 1 A n (intVs es)) (hn : n ≤ 1000000) :
    Calls Try.prog 18 #[.slice A n cap, .int .i64 l, .int .i64 epoch] w fun e w' => e = .returned (.bool (fitsB es l epoch)) ∧ w = w' := by
  have hl := intVs_len h
  by_cases h0 : l = 0
  · have hv : fitsB es l epoch = true := by unfold fitsB; rw [decide_eq_true_iff]; exact .inl h0
    rw [hv]
    have d0 : (l == 0) = true := by simpa using h0
    clear h hv h0 hl
    go_enter Try.func18, Try.ntmps18
    go_wp2_with fail
    go_ret
    exact ⟨rfl, rfl⟩
  · have d0 : (l == 0) = false := by simpa using h0
    by_cases h1 : 0 < l
    · by_cases h2 : l ≤ (n : Int)
      · have hv : fitsB es l epoch = (atL es l.toNat == epoch) := by
          unfold fitsB
          rw [Bool.eq_iff_iff, decide_eq_true_iff, beq_iff_eq]
          constructor
          · rintro (h | h); exact absurd h h0; exact h.2.2
          · intro h; exact .inr ⟨h1, by omega, h⟩
        rw [hv]
        have ha := at_any B n cap l.toNat A es w h (by omega) hn
        rw [show ((l.toNat : Nat) : Int) = l from by omega] at ha
        generalize atL es l.toNat = x at ha ⊢
        have Ha := Lib.hid ha
        clear h hv h0 hl ha
        go_enter Try.func18, Try.ntmps18
        go_wp2_with fail
        refine Ha.out.mono ?_
        rintro e w1 ⟨rfl, rfl⟩
        go_wp2_with fail
        go_ret
        exact ⟨rfl, rfl⟩
      · have hv : fitsB es l epoch = false := by unfold fitsB; rw [decide_eq_false_iff_not]; omega
        rw [hv]
        have h2' : (n : Int) < l := by omega
        clear h hv h0 hl h2
        go_enter Try.func18, Try.ntmps18
        go_wp2_with fail
        go_ret
        exact ⟨rfl, rfl⟩
    · have hv : fitsB es l epoch = false := by unfold fitsB; rw [decide_eq_false_iff_not]; omega
      rw [hv]
      have h1' : l ≤ 0 := by omega
      clear h hv h0 hl h1
      go_enter Try.func18, Try.ntmps18
      go_wp2_with fail
      go_ret
      exact ⟨rfl, rfl⟩

theorem newest_any (B n cap : Nat) (A : Option Addr) (es : List Int) (w : World) (h : SlR w B 1 A n (intVs es)) (hn : n ≤ 1000000) :
    Calls Try.prog 25 #[.slice A n cap] w fun e w' => e = .returned (.int .i64 (atL es n)) ∧ w = w' := by
  have ha := at_any B n cap n A es w h (Nat.le_refl _) hn
  have Ha := Lib.hid ha
  clear h ha
  go_enter Try.func25, Try.ntmps25
  go_wp2_with fail
  refine Ha.out.mono ?_
  rintro e w1 ⟨rfl, rfl⟩
  go_wp2_with fail
  go_ret
  exact ⟨rfl, rfl⟩

theorem backR_atL (es : List Int) (epoch : Int) (m : Nat) : backR es epoch (m + 1) = if atL es (m + 1) ≤ epoch then m + 1 else backR es epoch m := by
  simp [backR, atL]
theorem back_any (B n cap : Nat) (A : Option Addr) (es : List Int) (fr epoch : Int) (w : World) (h : SlR w B 1 A n (intVs es)) (hn : n ≤ 1000000) (hf : -9223372036854775808 ≤ fr ∧ fr ≤ 9223372036854775807) :
    Calls Try.prog 19 #[.slice A n cap, .int .i64 fr, .int .i64 epoch] w fun e w' => e = .returned (.int .i64 (backR es epoch (min fr (n : Int)).toNat : Nat)) ∧ w = w' := by
  obtain ⟨hf1, hf2⟩ := hf
  by_cases hfn : fr ≤ (n : Int)
  · by_cases h0 : 0 ≤ fr
    · obtain ⟨N, hN⟩ : ∃ N : Nat, fr = (N : Int) := ⟨fr.toNat, by omega⟩
      subst hN
      have hNn : N ≤ n := by omega
      rw [show (min (N : Int) (n : Int)).toNat = N from by omega]
      have Hh := Lib.hid h; clear h
      go_enter Try.func19, Try.ntmps19
      go_wp2_with fail
      go_loop [7] (fun i => ∃ m : Nat, m ≤ N ∧ i = .int .i64 m ∧ backR es epoch N = backR es epoch m) (fun i => (intOf i).toNat)
      case atStart => exact ⟨N, Nat.le_refl _, rfl, rfl⟩
      case round =>
        obtain ⟨m, hm, rfl, hbk⟩ := hrel
        cases m with
        | zero =>
          have Hbk := Lib.hid hbk; clear hbk
          go_wp2_with fail
          go_ret
          rw [Hbk.out]
          exact ⟨rfl, rfl⟩
        | succ m =>
          rw [backR_atL] at hbk
          have ha := at_any B n cap (m + 1) A es w Hh.out (by omega) hn
          obtain ⟨x, hx⟩ : ∃ x, atL es (m + 1) = x := ⟨_, rfl⟩
          rw [hx] at ha hbk
          have Ha := Lib.hid ha
          have hpos : (0 : Int) < ((m + 1 : Nat) : Int) := by omega
          by_cases hle : x ≤ epoch
          · rw [if_pos hle] at hbk
            have Hbk := Lib.hid hbk
            clear ha hbk hx
            go_wp2_with fail
            refine Ha.out.mono ?_
            rintro e w1 ⟨rfl, rfl⟩
            go_wp2_with fail
            go_ret
            rw [Hbk.out]
            exact ⟨by first | rfl | simp, rfl⟩
          · rw [if_neg hle] at hbk
            have hle' : epoch < x := by omega
            have Hbk := Lib.hid hbk
            clear ha hbk hx hle
            go_wp2_with fail
            refine Ha.out.mono ?_
            rintro e w1 ⟨rfl, rfl⟩
            go_wp2_with fail
            go_round
            case rel => exact ⟨m, by omega, by first | rfl | go_num | simp, Hbk.out⟩
            case measure => simp [intOf] <;> omega
    · have h0' : fr ≤ 0 := by omega
      have hv : backR es epoch (min fr (n : Int)).toNat = 0 := by rw [show (min fr (n : Int)).toNat = 0 from by omega]; rfl
      rw [hv]
      clear h hv h0
      go_enter Try.func19, Try.ntmps19
      go_wp2_with fail
      refine wp_loop_rounds 1 ?_
      rw [rounds_succ]
      go_wp2_with fail
      go_ret
      exact ⟨rfl, rfl⟩
  · have hfn' : (n : Int) < fr := by omega
    obtain ⟨N, hN⟩ : ∃ N : Nat, N = n := ⟨n, rfl⟩
    have hNn : N ≤ n := by omega
    rw [show (min fr (n : Int)).toNat = N from by omega]
    subst hN
    clear hfn
    have Hh := Lib.hid h; clear h
    go_enter Try.func19, Try.ntmps19
    go_wp2_with fail
    go_loop [7] (fun i => ∃ m : Nat, m ≤ N ∧ i = .int .i64 m ∧ backR es epoch N = backR es epoch m) (fun i => (intOf i).toNat)
    case atStart => exact ⟨N, Nat.le_refl _, rfl, rfl⟩
    case round =>
      obtain ⟨m, hm, rfl, hbk⟩ := hrel
      cases m with
      | zero =>
        have Hbk := Lib.hid hbk; clear hbk
        go_wp2_with fail
        go_ret
        rw [Hbk.out]
        exact ⟨rfl, rfl⟩
      | succ m =>
        rw [backR_atL] at hbk
        have ha := at_any B N cap (m + 1) A es w Hh.out (by omega) hn
        obtain ⟨x, hx⟩ : ∃ x, atL es (m + 1) = x := ⟨_, rfl⟩
        rw [hx] at ha hbk
        have Ha := Lib.hid ha
        have hpos : (0 : Int) < ((m + 1 : Nat) : Int) := by omega
        by_cases hle : x ≤ epoch
        · rw [if_pos hle] at hbk
          have Hbk := Lib.hid hbk
          clear ha hbk hx
          go_wp2_with fail
          refine Ha.out.mono ?_
          rintro e w1 ⟨rfl, rfl⟩
          go_wp2_with fail
          go_ret
          rw [Hbk.out]
          exact ⟨by first | rfl | simp, rfl⟩
        · rw [if_neg hle] at hbk
          have hle' : epoch < x := by omega
          have Hbk := Lib.hid hbk
          clear ha hbk hx hle
          go_wp2_with fail
          refine Ha.out.mono ?_
          rintro e w1 ⟨rfl, rfl⟩
          go_wp2_with fail
          go_round
          case rel => exact ⟨m, by omega, by first | rfl | go_num | simp, Hbk.out⟩
          case measure => simp [intOf] <;> omega
end Go.Proofs.Ytnnnilpgnjndlaa
