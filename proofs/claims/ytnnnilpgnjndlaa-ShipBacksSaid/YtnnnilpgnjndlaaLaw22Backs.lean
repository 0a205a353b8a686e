/- chapter 22: ShipBacks, walked. -/
import Derived.Test.YtnnnilpgnjndlaaShipMark
namespace Go.Proofs.Ytnnnilpgnjndlaa
open Go.RowKit
set_option maxHeartbeats 4000000
set_option maxRecDepth 100000
set_option linter.unusedVariables false

theorem add_zero22 (a : Addr) : a.add 0 = a := by unfold Addr.add; split <;> simp_all
theorem below_any {B : Nat} {a w w' : World} (h : Below B a w) (h2 : Below w.heap.size w w') (hB : B ≤ w.heap.size) : Below B a w' := h.trans (h2.mono hB)

theorem shipBacks_any (A D : Option Addr) (n m cn cm : Nat) (es os : List Int) (w : World) (ha : SlR w w.heap.size 1 A n (intVs es)) (hb : SlR w w.heap.size 1 D m (intVs os)) (hn : n ≤ 9223372036854775807) (hm : m ≤ 9223372036854775807) :
    Calls Try.prog 6 #[.slice A n cn, .slice D m cm] w fun e w' => e = .returned (.bool true) ∧ Below w.heap.size w w' := by
  by_cases t0 : n ≤ 30
  · by_cases t1 : m ≤ 30
    · have hle := intVs_len ha
      have hlo := intVs_len hb
      have Ha := Lib.hid ha; have Hb := Lib.hid hb; have Hle := Lib.hid hle; have Hlo := Lib.hid hlo
      clear ha hb hle hlo
      go_enter Try.func6, Try.ntmps6
      go_wp2_with fail
      go_loopw [5] (fun i wr => ∃ k q : Nat, k ≤ n ∧ i = .int .i64 k ∧ wr = w.drewN q) (fun i _ => n - (intOf i).toNat)
      case atStart => exact ⟨0, 0, Nat.zero_le _, rfl, rfl⟩
      case round =>
        obtain ⟨k, q, hk, rfl, rfl⟩ := hrel
        by_cases hlt : k < n
        · obtain ⟨ad, u, hA, had, hu, hcell⟩ := Ha.out.get hlt
          subst hA
          obtain ⟨x, hx, rfl⟩ := intVs_get hu
          clear hu hx had
          have i1 : (k : Int) < (n : Int) := by omega
          have i0 : 0 ≤ (k : Int) := by omega
          by_cases hx0 : x < 0
          · have d1 : decide (x < 0) = true := by simpa using hx0
            go_wp2_with fail
            go_quiet (fail)
            go_wp2_with fail
            refine (alive22_any _).mono ?_
            rintro e w5 ⟨rfl, hb5⟩
            go_wp2_with fail
            go_ret
            exact ⟨rfl, by exact ⟨hb5.os, hb5.tape, hb5.output, hb5.size, hb5.block⟩⟩
          · have d1 : decide (x < 0) = false := by simpa using hx0
            have hx1 : 0 ≤ x := by omega
            clear hx0
            by_cases hk0 : k = 0
            · subst hk0
              rw [add_zero22] at hcell
              go_wp2_with fail
              go_quiet (fail)
              go_wp2_with fail
              go_roundw
              case rel => exact ⟨1, _, by omega, by first | rfl | go_num | simp, rfl⟩
              case measure => simp [intOf] <;> omega
            · obtain ⟨ad2, u2, hA2, had2, hu2, hcell2⟩ := Ha.out.get (show k - 1 < n by omega)
              cases hA2
              obtain ⟨y, hy, rfl⟩ := intVs_get hu2
              clear hu2 hy had2
              have i3 : ((k - 1 : Nat) : Int) < (n : Int) := by omega
              have i4 : 0 ≤ ((k - 1 : Nat) : Int) := by omega
              have e1 : (k : Int) - 1 = ((k - 1 : Nat) : Int) := by omega
              have p1 : 0 < k := by omega
              clear hk0
              by_cases hxy : x < y
              · have d2 : decide (x < y) = true := by simpa using hxy
                go_wp2_with fail
                go_quiet (fail)
                go_wp2_with fail
                refine (alive22_any _).mono ?_
                rintro e w5 ⟨rfl, hb5⟩
                go_wp2_with fail
                go_ret
                exact ⟨rfl, by exact ⟨hb5.os, hb5.tape, hb5.output, hb5.size, hb5.block⟩⟩
              · have d2 : decide (x < y) = false := by simpa using hxy
                clear hxy e1
                have e1 : (k : Int) - 1 = ((k - 1 : Nat) : Int) := by omega
                go_wp2_with fail
                go_quiet (fail)
                clear e1
                go_wp2_with fail
                go_roundw
                case rel => exact ⟨k + 1, _, by omega, by go_num, rfl⟩
                case measure => simp [intOf] <;> omega
        · have hge : (n : Int) ≤ (k : Int) := by omega
          have hd5 : decide (k < n) = false := decide_eq_false hlt
          clear hlt
          go_wp2_with fail
          go_loopw [6] (fun i wr => ∃ k q : Nat, k ≤ m ∧ i = .int .i64 k ∧ wr = w.drewN q) (fun i _ => m - (intOf i).toNat)
          case atStart => exact ⟨0, q, Nat.zero_le _, rfl, rfl⟩
          case round =>
            obtain ⟨k, q, hk, rfl, rfl⟩ := hrel
            by_cases hlt : k < m
            · obtain ⟨ad, u, hA, had, hu, hcell⟩ := Hb.out.get hlt
              subst hA
              obtain ⟨x, hx, rfl⟩ := intVs_get hu
              clear hu hx had
              have i1 : (k : Int) < (m : Int) := by omega
              have i0 : 0 ≤ (k : Int) := by omega
              by_cases hx0 : x < 0
              · have d1 : decide (x < 0) = true := by simpa using hx0
                go_wp2_with fail
                go_quiet (fail)
                go_wp2_with fail
                refine (alive22_any _).mono ?_
                rintro e w5 ⟨rfl, hb5⟩
                go_wp2_with fail
                go_ret
                exact ⟨rfl, by exact ⟨hb5.os, hb5.tape, hb5.output, hb5.size, hb5.block⟩⟩
              · have d1 : decide (x < 0) = false := by simpa using hx0
                have hx1 : 0 ≤ x := by omega
                clear hx0
                by_cases hk0 : k = 0
                · subst hk0
                  rw [add_zero22] at hcell
                  go_wp2_with fail
                  go_quiet (fail)
                  go_wp2_with fail
                  go_roundw
                  case rel => exact ⟨1, _, by omega, by first | rfl | go_num | simp, rfl⟩
                  case measure => simp [intOf] <;> omega
                · obtain ⟨ad2, u2, hA2, had2, hu2, hcell2⟩ := Hb.out.get (show k - 1 < m by omega)
                  cases hA2
                  obtain ⟨y, hy, rfl⟩ := intVs_get hu2
                  clear hu2 hy had2
                  have i3 : ((k - 1 : Nat) : Int) < (m : Int) := by omega
                  have i4 : 0 ≤ ((k - 1 : Nat) : Int) := by omega
                  have e1 : (k : Int) - 1 = ((k - 1 : Nat) : Int) := by omega
                  have p1 : 0 < k := by omega
                  clear hk0
                  by_cases hxy : x < y
                  · have d2 : decide (x < y) = true := by simpa using hxy
                    go_wp2_with fail
                    go_quiet (fail)
                    go_wp2_with fail
                    refine (alive22_any _).mono ?_
                    rintro e w5 ⟨rfl, hb5⟩
                    go_wp2_with fail
                    go_ret
                    exact ⟨rfl, by exact ⟨hb5.os, hb5.tape, hb5.output, hb5.size, hb5.block⟩⟩
                  · have d2 : decide (x < y) = false := by simpa using hxy
                    clear hxy e1
                    have e1 : (k : Int) - 1 = ((k - 1 : Nat) : Int) := by omega
                    go_wp2_with fail
                    go_quiet (fail)
                    clear e1
                    go_wp2_with fail
                    go_roundw
                    case rel => exact ⟨k + 1, _, by omega, by go_num, rfl⟩
                    case measure => simp [intOf] <;> omega
            · have hge : (m : Int) ≤ (k : Int) := by omega
              have hd6 : decide (k < m) = false := decide_eq_false hlt
              clear hlt
              go_wp2_with fail
              go_loopw [7, 8, 9, 10] (fun at_ i _ _ wr => ∃ (k t z : Nat), i = .int .i64 k ∧ at_ = .int .i64 t ∧ t + k ≤ 30 ∧ t ≤ m ∧ wr = w.drewN z) (fun at_ _ _ _ _ => (intOf at_).toNat)
              case atStart => exact ⟨0, m, _, rfl, rfl, by omega, Nat.le_refl _, rfl⟩
              case round =>
                obtain ⟨k2, t, z, rfl, rfl, htk, htm, rfl⟩ := hrel
                have k100 : (k2 : Int) < 100 := by omega
                cases t with
                | zero =>
                  have hf : fitsB es (0 : Int) 0 = true := by unfold fitsB; rw [decide_eq_true_iff]; exact .inl rfl
                  have hfi := fits_any w.heap.size n cn A es 0 0 (w.drewN z) (Ha.out.drewN z) (by omega)
                  rw [hf] at hfi
                  have Hfi := Lib.hid hfi
                  clear hf hfi
                  go_wp2_with fail
                  refine Hfi.out.mono ?_
                  rintro e w4 ⟨rfl, rfl⟩
                  go_wp2_with fail
                  refine (alive22_any _).mono ?_
                  rintro e w5 ⟨rfl, hb5⟩
                  go_wp2_with fail
                  go_ret
                  exact ⟨rfl, by exact ⟨hb5.os, hb5.tape, hb5.output, hb5.size, hb5.block⟩⟩
                | succ t =>
                  obtain ⟨ad, u, hA, had, hu, hcell⟩ := Hb.out.get (show t < m by omega)
                  subst hA
                  obtain ⟨ep, hep, rfl⟩ := intVs_get hu
                  clear hu hep had
                  have i2 : (t : Int) < (m : Int) := by omega
                  have i4 : 0 ≤ (t : Int) := by omega
                  have e1 : ((t + 1 : Nat) : Int) - 1 = (t : Int) := by omega
                  have p1 : (0 : Int) < (t : Int) + 1 := by omega
                  have hfi := fits_any w.heap.size n cn A es ((t + 1 : Nat) : Int) ep (w.drewN z) (Ha.out.drewN z) (by omega)
                  cases hf : fitsB es ((t + 1 : Nat) : Int) ep with
                  | true =>
                    rw [hf] at hfi
                    have Hfi := Lib.hid hfi
                    clear hf hfi
                    go_wp2_with fail
                    refine Hfi.out.mono ?_
                    rintro e w4 ⟨rfl, rfl⟩
                    go_wp2_with fail
                    refine (alive22_any _).mono ?_
                    rintro e w5 ⟨rfl, hb5⟩
                    go_wp2_with fail
                    go_ret
                    exact ⟨rfl, by exact ⟨hb5.os, hb5.tape, hb5.output, hb5.size, hb5.block⟩⟩
                  | false =>
                    rw [hf] at hfi
                    have Hfi := Lib.hid hfi
                    clear hf hfi
                    have hbk := back_any w.heap.size n cn A es (min (t : Int) (n : Int)) ep (w.drewN z) (Ha.out.drewN z) (by omega) (by omega)
                    obtain ⟨N, hN, hNt, hNn⟩ : ∃ N : Nat, (min (min (t : Int) (n : Int)) (n : Int)).toNat = N ∧ N ≤ t ∧ N ≤ n := ⟨_, rfl, by omega, by omega⟩
                    rw [hN] at hbk
                    clear hN
                    have hrl := backR_le es ep N
                    have hro := backR_ok es ep N
                    obtain ⟨r, hr⟩ : ∃ r, backR es ep N = r := ⟨_, rfl⟩
                    rw [hr] at hbk hrl hro
                    have Hbk := Lib.hid hbk
                    have hrn : r ≤ n := by omega
                    have hrt : r ≤ t := by omega
                    clear hbk hr
                    cases r with
                    | zero =>
                      clear hro
                      go_wp2_with fail
                      refine Hfi.out.mono ?_
                      rintro e w4 ⟨rfl, rfl⟩
                      go_wp2_with fail
                      refine Hbk.out.mono ?_
                      rintro e w4 ⟨rfl, rfl⟩
                      go_wp2_with fail
                      go_roundw
                      case rel =>
                        exact ⟨k2 + 1, 0, _, by first | rfl | go_num | (simp <;> omega), by first | rfl | go_num, by omega, by omega, rfl⟩
                      case measure => simp [intOf] <;> omega
                    | succ r =>
                      obtain ⟨ad3, u3, hA3, had3, hu3, hcell3⟩ := Ha.out.get (show r < n by omega)
                      subst hA3
                      obtain ⟨y, hy, rfl⟩ := intVs_get hu3
                      have hle2 := hro (by omega)
                      rw [Nat.add_sub_cancel, hy] at hle2
                      have hle3 : y ≤ ep := hle2
                      have e3 : ((r + 1 : Nat) : Int) - 1 = (r : Int) := by omega
                      have r1 : (r : Int) < (n : Int) := by omega
                      have r2 : (r : Int) + 1 ≤ (n : Int) := by omega
                      have r3 : (r : Int) + 1 < (t : Int) + 1 := by omega
                      have r0 : 0 ≤ (r : Int) := by omega
                      clear hu3 hy had3 hle2 hro
                      go_wp2_with fail
                      refine Hfi.out.mono ?_
                      rintro e w4 ⟨rfl, rfl⟩
                      go_wp2_with fail
                      refine Hbk.out.mono ?_
                      rintro e w4 ⟨rfl, rfl⟩
                      go_wp2_with fail
                      go_roundw
                      case rel =>
                        exact ⟨k2 + 1, r + 1, _, by first | rfl | go_num | (simp <;> omega), by first | rfl | go_num, by omega, by omega, rfl⟩
                      case measure => simp [intOf] <;> omega
    · have n1 : 30 < m := by omega
      clear t1 ha hb
      go_enter Try.func6, Try.ntmps6
      go_wp2_with fail
      refine (alive22_any _).mono ?_
      rintro e w1 ⟨rfl, hb1⟩
      go_wp2_with fail
      go_ret
      exact ⟨rfl, hb1⟩
  · have n0 : 30 < n := by omega
    clear t0 ha hb
    go_enter Try.func6, Try.ntmps6
    go_wp2_with fail
    refine (alive22_any _).mono ?_
    rintro e w1 ⟨rfl, hb1⟩
    go_wp2_with fail
    go_ret
    exact ⟨rfl, hb1⟩
end Go.Proofs.Ytnnnilpgnjndlaa
