/- chapter 21: VoteMajority, walked. -/
import Derived.Test.YtbcbjibbeieaiaaLaw21
namespace Go.Proofs.Ytbcbjibbeieaiaa
open Go.RowKit
set_option maxHeartbeats 4000000
set_option maxRecDepth 100000
set_option linter.unusedVariables false

theorem intVs_at {zs : List Int} {k : Nat} (h : k < zs.length) : (intVs zs)[k]? = some (.int .i64 zs[k]) := by simp [intVs, h]
/-- no one of the first k of a is in b and in range -/
def NoCommon (nodes : Int) (a b : List Int) : Prop := ∀ x ∈ a, ∀ y ∈ b, ¬ (x = y ∧ 0 ≤ x ∧ x < nodes)

theorem voteMajority_any (nodes : Int) (A D : Option Addr) (n m cn cm : Nat) (a b : List Int) (w : World) (hla : a.length = n) (ha : SlR w w.heap.size 1 A n (intVs a)) (hlb : b.length = m) (hb : SlR w w.heap.size 1 D m (intVs b))
    (wa : ∀ z ∈ a, (Lit.int .i64 z).wf = true) (wb : ∀ z ∈ b, (Lit.int .i64 z).wf = true) (hn : n ≤ 9223372036854775807) (hm : m ≤ 9223372036854775807) (hno : -9223372036854775808 ≤ nodes ∧ nodes ≤ 9223372036854775807) :
    Calls Try.prog 3 #[.int .i64 nodes, .slice A n cn, .slice D m cm] w fun e w' => e = .returned (.bool true) ∧ Below w.heap.size w w' := by
  by_cases t0 : 1 ≤ nodes
  · by_cases t1 : nodes ≤ 7
    · by_cases t2 : n ≤ 20
      · by_cases t3 : m ≤ 20
        · have m1 := maj_any w.heap.size n cn A nodes a w ha (Nat.le_refl _) (by omega) wa hno
          cases hma : majB nodes a with
          | true =>
            rw [hma] at m1
            cases hmb : majB nodes b with
            | true =>
              obtain ⟨x0, hx1, hx2, hx3⟩ := maj_common nodes a b hma hmb
              have hno2 : ¬ NoCommon nodes a b := fun h => h x0 hx1 x0 hx2 ⟨rfl, hx3⟩
              have M1 := Lib.hid m1; have Ha := Lib.hid ha; have Hb := Lib.hid hb; have Hmb := Lib.hid hmb; have Hno2 := Lib.hid hno2; have Hla := Lib.hid hla; have Hlb := Lib.hid hlb; have Wb := Lib.hid wb
              clear m1 ha hb hma hmb hno2 hx1 hx2 hx3 hla hlb wa wb
              go_enter Try.func3, Try.ntmps3
              go_wp2_with fail
              refine M1.out.mono ?_
              rintro e w1 ⟨rfl, hb1⟩
              go_wp2_with fail
              refine (maj_any w.heap.size m cm D nodes b _ (Hb.out.below hb1) hb1.size (by omega) Wb.out hno).mono ?_
              rintro e w2 ⟨rfl, hb2⟩
              rw [Hmb.out]
              have hb12 := hb1.trans (hb2.mono hb1.size)
              have Sa := Lib.hid (Ha.out.below hb12); have Sb := Lib.hid (Hb.out.below hb12)
              clear hb1 hb2
              go_wp2_with fail
              go_loopw [7] (fun i wr => ∃ k q : Nat, k ≤ n ∧ i = .int .i64 k ∧ wr = w2.drewN q ∧ NoCommon nodes (a.take k) b) (fun i _ => n - (intOf i).toNat)
              case atStart => exact ⟨0, 0, Nat.zero_le _, rfl, rfl, by intro x hx; simp at hx⟩
              case round =>
                obtain ⟨k, q, hk, rfl, rfl, hnc⟩ := hrel
                have Hnc := Lib.hid hnc; clear hnc
                by_cases hlt : k < n
                · obtain ⟨ad, u, hA, had, hu, hcell⟩ := Sa.out.get hlt
                  subst hA
                  obtain ⟨x, hx, rfl⟩ := intVs_get hu
                  have Hx := Lib.hid hx
                  clear hu had hx
                  go_wp2_with fail
                  go_loopw [8] (fun i wr => ∃ j p : Nat, j ≤ m ∧ i = .int .i64 j ∧ wr = w2.drewN p ∧ NoCommon nodes [x] (b.take j)) (fun i _ => m - (intOf i).toNat)
                  case atStart => exact ⟨0, q, Nat.zero_le _, rfl, rfl, by intro x hx y hy; simp at hy⟩
                  case round =>
                    obtain ⟨j, p, hj, rfl, rfl, hnd⟩ := hrel
                    have Hnd := Lib.hid hnd; clear hnd
                    by_cases hlt2 : j < m
                    · obtain ⟨ad2, u2, hA2, had2, hu2, hcell2⟩ := Sb.out.get hlt2
                      subst hA2
                      obtain ⟨y, hy, rfl⟩ := intVs_get hu2
                      have Hy := Lib.hid hy
                      clear hu2 had2 hy
                      have i1 : (k : Int) < (n : Int) := by omega
                      have i2 : (j : Int) < (m : Int) := by omega
                      have i3 : 0 ≤ (k : Int) := by omega
                      have i4 : 0 ≤ (j : Int) := by omega
                      have hstep : ¬ (x = y ∧ 0 ≤ x ∧ x < nodes) → NoCommon nodes [x] (b.take (j + 1)) := by
                        intro h x' hx' y' hy'
                        simp at hx'; subst hx'
                        rw [List.take_add_one, Hy.out] at hy'
                        rcases List.mem_append.1 hy' with h1 | h1
                        · exact Hnd.out x' (by simp) y' h1
                        · have : y' = y := by simpa using h1
                          subst this; exact h
                      have Hstep := Lib.hid hstep; clear hstep
                      by_cases e1 : x = y
                      · subst e1
                        have d1 : (x == x) = true := by simp
                        by_cases e2 : 0 ≤ x
                        · have d2 : decide (0 ≤ x) = true := by simpa using e2
                          by_cases e3 : x < nodes
                          · have d3 : decide (x < nodes) = true := by simpa using e3
                            go_wp2_with fail
                            go_quiet (fail)
                            go_wp2_with fail
                            refine (alive21_any _).mono ?_
                            rintro e w5 ⟨rfl, hb5⟩
                            go_wp2_with fail
                            go_ret
                            exact ⟨rfl, hb12.trans ((by exact ⟨hb5.os, hb5.tape, hb5.output, hb5.size, hb5.block⟩ : Below w2.heap.size w2 w5).mono hb12.size)⟩
                          · have d3 : decide (x < nodes) = false := by simpa using e3
                            have hs := Hstep.out (fun h => e3 h.2.2)
                            have Hs := Lib.hid hs; clear hs e3
                            go_wp2_with fail
                            go_quiet (fail)
                            go_wp2_with fail
                            go_roundw
                            case rel => exact ⟨j + 1, p + nq, by omega, by go_num, rfl, Hs.out⟩
                            case measure => simp [intOf]; omega
                        · have d2 : decide (0 ≤ x) = false := by simpa using e2
                          have hs := Hstep.out (fun h => e2 h.2.1)
                          have Hs := Lib.hid hs; clear hs e2
                          go_wp2_with fail
                          go_quiet (fail)
                          go_wp2_with fail
                          go_roundw
                          case rel => exact ⟨j + 1, p + nq, by omega, by go_num, rfl, Hs.out⟩
                          case measure => simp [intOf]; omega
                      · have d1 : (x == y) = false := by simpa using e1
                        have hs := Hstep.out (fun h => e1 h.1)
                        have Hs := Lib.hid hs; clear hs e1
                        go_wp2_with fail
                        go_quiet (fail)
                        go_wp2_with fail
                        go_roundw
                        case rel => exact ⟨j + 1, p + nq, by omega, by go_num, rfl, Hs.out⟩
                        case measure => simp [intOf]; omega
                    · obtain rfl : j = m := by omega
                      have hs : NoCommon nodes (a.take (k + 1)) b := by
                        have h1 := Hnd.out
                        rw [List.take_of_length_le (by rw [Hlb.out]; omega)] at h1
                        intro x' hx' y' hy'
                        rw [List.take_add_one, Hx.out] at hx'
                        rcases List.mem_append.1 hx' with h2 | h2
                        · exact Hnc.out x' h2 y' hy'
                        · have : x' = x := by simpa using h2
                          subst this; exact h1 x' (by simp) y' hy'
                      have Hs := Lib.hid hs; clear hs
                      go_wp2_with fail
                      go_roundw
                      case rel => exact ⟨k + 1, p, by omega, by go_num, rfl, Hs.out⟩
                      case measure => simp [intOf]; omega
                · exfalso
                  have := Hnc.out
                  rw [List.take_of_length_le (by rw [Hla.out]; omega)] at this
                  exact Hno2.out this
            | false =>
              have M1 := Lib.hid m1; have Hb := Lib.hid hb; have Hmb := Lib.hid hmb; have Wb := Lib.hid wb
              clear m1 ha hb hma hmb hla hlb wa wb
              go_enter Try.func3, Try.ntmps3
              go_wp2_with fail
              refine M1.out.mono ?_
              rintro e w1 ⟨rfl, hb1⟩
              go_wp2_with fail
              refine (maj_any w.heap.size m cm D nodes b _ (Hb.out.below hb1) hb1.size (by omega) Wb.out hno).mono ?_
              rintro e w2 ⟨rfl, hb2⟩
              rw [Hmb.out]
              have hb12 := hb1.trans (hb2.mono hb1.size)
              clear hb1 hb2
              go_wp2_with fail
              refine (alive21_any _).mono ?_
              rintro e w5 ⟨rfl, hb5⟩
              go_wp2_with fail
              go_ret
              exact ⟨rfl, hb12.trans (hb5.mono hb12.size)⟩
          | false =>
            rw [hma] at m1
            have M1 := Lib.hid m1
            clear m1 ha hb hma hla hlb wa wb
            go_enter Try.func3, Try.ntmps3
            go_wp2_with fail
            refine M1.out.mono ?_
            rintro e w1 ⟨rfl, hb1⟩
            go_wp2_with fail
            refine (alive21_any _).mono ?_
            rintro e w5 ⟨rfl, hb5⟩
            go_wp2_with fail
            go_ret
            exact ⟨rfl, hb1.trans (hb5.mono hb1.size)⟩
        · have n3 : 20 < m := by omega
          clear t3 ha hb hla hlb wa wb
          go_enter Try.func3, Try.ntmps3
          go_wp2_with fail
          refine (alive21_any _).mono ?_
          rintro e w1 ⟨rfl, hb1⟩
          go_wp2_with fail
          go_ret
          exact ⟨rfl, hb1⟩
      · have n2 : 20 < n := by omega
        clear t2 ha hb hla hlb wa wb
        go_enter Try.func3, Try.ntmps3
        go_wp2_with fail
        refine (alive21_any _).mono ?_
        rintro e w1 ⟨rfl, hb1⟩
        go_wp2_with fail
        go_ret
        exact ⟨rfl, hb1⟩
    · have n1 : 7 < nodes := by omega
      clear t1 ha hb hla hlb wa wb
      go_enter Try.func3, Try.ntmps3
      go_wp2_with fail
      refine (alive21_any _).mono ?_
      rintro e w1 ⟨rfl, hb1⟩
      go_wp2_with fail
      go_ret
      exact ⟨rfl, hb1⟩
  · have n0 : nodes < 1 := by omega
    clear t0 ha hb hla hlb wa wb
    go_enter Try.func3, Try.ntmps3
    go_wp2_with fail
    refine (alive21_any _).mono ?_
    rintro e w1 ⟨rfl, hb1⟩
    go_wp2_with fail
    go_ret
    exact ⟨rfl, hb1⟩
end Go.Proofs.Ytbcbjibbeieaiaa
