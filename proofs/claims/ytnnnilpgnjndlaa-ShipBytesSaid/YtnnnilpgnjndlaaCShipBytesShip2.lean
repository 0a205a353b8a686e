/- package ship: Join, Agreed, walked. -/
import Derived.Test.YtnnnilpgnjndlaaCShipBytesShip

namespace Go.Proofs.Ytnnnilpgnjndlaa
open Go.RowKit
set_option maxHeartbeats 4000000
set_option maxRecDepth 100000
set_option linter.unusedVariables false

/-- how many are kept, and how many come, at whatever length -/
def joinI (es : List Int) (l : Int) (ms : List Int) : Nat × Nat := if l < 0 ∨ (es.length : Int) < l then (0, 0) else joinP es l.toNat ms

theorem join_any (B C n m cap cm : Nat) (A D : Option Addr) (es ms : List Int) (l : Int) (w : World) (h : SlR w B 1 A n (intVs es)) (h2 : SlR w C 1 D m (intVs ms)) (hn : n ≤ 1000000) (hm : m ≤ 1000000) :
    Calls Try.prog 15 #[.slice A n cap, .int .i64 l, .slice D m cm] w fun e w' => e = .returned (.tuple #[.int .i64 ((joinI es l ms).1 : Nat), .int .i64 ((joinI es l ms).2 : Nat)]) ∧ w = w' := by
  have hle := intVs_len h
  have hlm := intVs_len h2
  by_cases h0 : 0 ≤ l
  · by_cases h1 : l ≤ (n : Int)
    · obtain ⟨L, rfl⟩ : ∃ L : Nat, l = (L : Int) := ⟨l.toNat, by omega⟩
      have hL : L ≤ n := by omega
      have hv : joinI es (L : Int) ms = joinP es L ms := by unfold joinI; rw [if_neg (by omega), Int.toNat_natCast]
      rw [hv]
      obtain ⟨c, hc⟩ : ∃ c, cpl (es.drop L) ms = c := ⟨_, rfl⟩
      have hj : joinP es L ms = if c < ms.length then (L + c, ms.length - c) else (es.length, 0) := by unfold joinP; rw [hc]
      have hdl : (es.drop L).length = n - L := by rw [List.length_drop, hle]
      have hstep : ∀ i, i ≤ c → (c = i ↔ ¬ (i < (es.drop L).length ∧ i < ms.length ∧ (es.drop L)[i]? = ms[i]?)) := fun i hi => by rw [← hc]; exact cpl_step _ _ i (by rw [hc]; exact hi)
      have hcr : c ≤ ms.length := by rw [← hc]; exact cpl_le_right _ _
      rw [hle, hlm] at hj
      rw [hlm] at hcr
      have Hh := Lib.hid h; have H2 := Lib.hid h2; have Hj := Lib.hid hj; have Hstep := Lib.hid hstep; have Hdl := Lib.hid hdl; have Hlm := Lib.hid hlm
      clear h h2 hj hstep hdl hv hc hle hlm h0
      go_enter Try.func15, Try.ntmps15
      go_wp2_with fail
      go_loop [6, 7, 8, 9, 20] (fun _ _ _ _ i => ∃ k : Nat, k ≤ m ∧ i = .int .i64 k ∧ k ≤ c) (fun _ _ _ _ i => m - (intOf i).toNat)
      case atStart => exact ⟨0, Nat.zero_le _, rfl, Nat.zero_le _⟩
      case round =>
        obtain ⟨k, hk, rfl, hkc⟩ := hrel
        by_cases hlt : k < m
        · obtain ⟨ad, u, hA, had, hu, hcell⟩ := H2.out.get hlt
          subst hA
          obtain ⟨y, hy, rfl⟩ := intVs_get hu
          have hst := Hstep.out k hkc
          rw [Hdl.out, Hlm.out] at hst
          have i1 : (k : Int) < (m : Int) := by omega
          have i0 : 0 ≤ (k : Int) := by omega
          by_cases hin : L + k < n
          · obtain ⟨ad2, u2, hA2, had2, hu2, hcell2⟩ := Hh.out.get hin
            subst hA2
            obtain ⟨x, hx, rfl⟩ := intVs_get hu2
            rw [List.getElem?_drop, hx, hy] at hst
            have i2 : (L : Int) + (k : Int) < (n : Int) := by omega
            have i3 : ((L : Int) + (k : Int)).toNat = L + k := by omega
            have Hi3 := Lib.hid i3
            by_cases hxy : x = y
            · have hck : k + 1 ≤ c := by
                have : c ≠ k := fun e => (hst.1 e) ⟨by omega, hlt, by rw [hxy]⟩
                omega
              have d1 : (x != y) = false := by simpa using hxy
              clear hu hy hst hu2 hx hxy had had2
              go_wp2_with fail
              go_round
              case rel =>
                refine ⟨_, _, _, _, _, ⟨k + 1, by omega, ?_, hck⟩, rfl, rfl, rfl, rfl, rfl⟩
                go_num
              case measure => simp [intOf]; omega
            · have hck : c = k := hst.2 (fun h => hxy (by simpa using h.2.2))
              have d1 : (x != y) = true := by rw [bne_iff_ne]; exact hxy
              have Hck := Lib.hid hck
              clear hu hy hst hu2 hx hxy had had2 hck
              go_wp2_with fail
              go_ret2
              rw [Hj.out, Hck.out, if_pos hlt]
              exact ⟨by rw [Int.natCast_add, Int.ofNat_sub (by omega)]; rfl, rfl⟩
          · have hck : c = k := hst.2 (fun h => by omega)
            have Hck := Lib.hid hck
            have i2 : (n : Int) ≤ (L : Int) + (k : Int) := by omega
            clear hu hy hst had hck hin
            go_wp2_with fail
            go_ret2
            rw [Hj.out, Hck.out, if_pos hlt]
            exact ⟨by rw [Int.natCast_add, Int.ofNat_sub (by omega)]; rfl, rfl⟩
        · obtain rfl : k = m := by omega
          go_wp2_with fail
          go_ret2
          rw [Hj.out, if_neg (by omega)]
          exact ⟨rfl, rfl⟩
    · have hv : joinI es l ms = (0, 0) := by unfold joinI; rw [if_pos (by omega)]
      rw [hv]
      have h1' : (n : Int) < l := by omega
      clear h h2 hv hle hlm h1
      go_enter Try.func15, Try.ntmps15
      go_wp2_with fail
      go_ret2
      exact ⟨rfl, rfl⟩
  · have hv : joinI es l ms = (0, 0) := by unfold joinI; rw [if_pos (by omega)]
    rw [hv]
    have h0' : l < 0 := by omega
    clear h h2 hv hle hlm h0
    go_enter Try.func15, Try.ntmps15
    go_wp2_with fail
    go_ret2
    exact ⟨rfl, rfl⟩

theorem haveN_succ (k : Nat) (ms : List Int) (n : Nat) (y : Int) (h : ms[k]? = some y) : haveN (k + 1) ms n = haveN k ms n + if (n : Int) ≤ y then 1 else 0 := by
  unfold haveN
  rw [List.take_add_one, h, List.filter_append, List.length_append]
  congr 1
  by_cases a : (n : Int) ≤ y <;> simp [a]
theorem haveN_le (k : Nat) (ms : List Int) (n : Nat) : haveN k ms n ≤ k := by
  unfold haveN
  have := List.length_filter_le (fun m => decide ((n : Int) ≤ m)) (ms.take k)
  rw [List.length_take] at this
  omega
theorem haveN_all (k : Nat) (ms : List Int) (n : Nat) (h : ms.length ≤ k) : haveN k ms n = haveN ms.length ms n := by
  unfold haveN
  rw [List.take_of_length_le h, List.take_of_length_le (Nat.le_refl _)]
theorem agreedR_atL (nodes : Nat) (es : List Int) (term : Int) (ms : List Int) (m : Nat) : agreedR nodes es term ms (m + 1) = if nodes / 2 < haveN nodes ms (m + 1) ∧ atL es (m + 1) = term then m + 1 else agreedR nodes es term ms m := by
  simp [agreedR, atL]
/-- how many are agreed on, at whatever number of nodes -/
def agreedI (nodes : Int) (es : List Int) (term : Int) (ms : List Int) : Nat := if nodes < 1 then 0 else agreedR nodes.toNat es term ms es.length
theorem agreed_any (B C n m cap cm : Nat) (A D : Option Addr) (es ms : List Int) (nodes term : Int) (w : World) (h : SlR w B 1 A n (intVs es)) (h2 : SlR w C 1 D m (intVs ms)) (hn : n ≤ 1000000) (hm : m ≤ 1000000) (hmc : m ≤ cm)
    (hno : nodes ≤ 9223372036854775807) :
    Calls Try.prog 17 #[.int .i64 nodes, .slice A n cap, .int .i64 term, .slice D m cm] w fun e w' => e = .returned (.int .i64 (agreedI nodes es term ms : Nat)) ∧ w = w' := by
  have hle := intVs_len h
  have hlm := intVs_len h2
  by_cases h0 : 1 ≤ nodes
  · obtain ⟨N, rfl⟩ : ∃ N : Nat, nodes = (N : Int) := ⟨nodes.toNat, by omega⟩
    have hN1 : 1 ≤ N := by omega
    have hN2 : N ≤ 9223372036854775807 := by omega
    have hv : agreedI (N : Int) es term ms = agreedR N es term ms n := by unfold agreedI; rw [if_neg (by omega), Int.toNat_natCast, hle]
    rw [hv]
    obtain ⟨mm, hmm, hmmm⟩ : ∃ mm : Nat, (∀ j, haveN N ms j = haveN mm ms j) ∧ ((N ≤ m ∧ mm = N) ∨ (m < N ∧ mm = m)) := by
      by_cases hh : N ≤ m
      · exact ⟨N, fun j => rfl, .inl ⟨hh, rfl⟩⟩
      · exact ⟨m, fun j => by rw [← hlm]; exact haveN_all N ms j (by omega), .inr ⟨by omega, rfl⟩⟩
    have hmle : mm ≤ m := by omega
    have Hh := Lib.hid h; have H2 := Lib.hid h2; have Hmm := Lib.hid hmm
    clear h h2 hv hmm h0 hle hlm
    rcases hmmm with ⟨g1, rfl⟩ | ⟨g1, rfl⟩
    · have g1' : (mm : Int) ≤ (m : Int) := by omega
      go_enter Try.func17, Try.ntmps17
      go_wp2_with fail
      go_loop [9] (fun i => ∃ t : Nat, t ≤ n ∧ i = .int .i64 t ∧ agreedR mm es term ms n = agreedR mm es term ms t) (fun i => (intOf i).toNat)
      case atStart => exact ⟨n, Nat.le_refl _, rfl, rfl⟩
      case round =>
        obtain ⟨t, ht, rfl, hag⟩ := hrel
        cases t with
        | zero =>
          have Hag := Lib.hid hag; clear hag
          go_wp2_with fail
          go_ret
          rw [Hag.out]
          exact ⟨rfl, rfl⟩
        | succ t =>
          rw [agreedR_atL] at hag
          have ha := at_any B n cap (t + 1) A es w Hh.out (by omega) hn
          obtain ⟨x, hx⟩ : ∃ x, atL es (t + 1) = x := ⟨_, rfl⟩
          rw [hx] at ha hag
          have Ha := Lib.hid ha; have Hag := Lib.hid hag
          have hpos : (0 : Int) < ((t + 1 : Nat) : Int) := by omega
          clear ha hag hx
          go_wp2_with fail
          go_loop [10, 28] (fun hv i => ∃ k : Nat, k ≤ mm ∧ i = .int .i64 k ∧ hv = .int .i64 (haveN k ms (t + 1) : Nat)) (fun _ i => mm - (intOf i).toNat)
          case atStart => exact ⟨0, Nat.zero_le _, rfl, by simp [haveN]⟩
          case round =>
            obtain ⟨k, hk, rfl, rfl⟩ := hrel
            have hhl := haveN_le k ms (t + 1)
            by_cases hlt : k < mm
            · obtain ⟨ad, u, hA, had, hu, hcell⟩ := H2.out.get (show k < m by omega)
              subst hA
              obtain ⟨y, hy, rfl⟩ := intVs_get hu
              have hs := haveN_succ k ms (t + 1) y hy
              have i1 : (k : Int) < (mm : Int) := by omega
              have i0 : 0 ≤ (k : Int) := by omega
              by_cases hge : ((t + 1 : Nat) : Int) ≤ y
              · rw [if_pos hge] at hs
                have Hs := Lib.hid hs
                have hge2 : (t : Int) + 1 ≤ y := by omega
                clear hu hy hs had hge
                go_wp2_with fail
                go_round
                case rel => exact ⟨k + 1, by omega, by go_num, by rw [Hs.out]; go_num⟩
                case measure => simp [intOf]; omega
              · rw [if_neg hge] at hs
                have Hs := Lib.hid hs
                have hge2 : y < (t : Int) + 1 := by omega
                clear hu hy hs had hge
                go_wp2_with fail
                go_round
                case rel => exact ⟨k + 1, by omega, by go_num, by rw [Hs.out]; rfl⟩
                case measure => simp [intOf]; omega
            · have hkm : k = mm := by omega
              obtain ⟨q, hq⟩ : ∃ q, haveN k ms (t + 1) = q := ⟨_, rfl⟩
              have hq2 : haveN mm ms (t + 1) = q := by rw [← hkm]; exact hq
              rw [hq2] at Hag
              rw [hq] at hhl ⊢
              have i1 : (mm : Int) ≤ (k : Int) := by omega
              clear hq hq2 hkm
              by_cases hgt : mm / 2 < q
              · have hgt2 : (mm : Int) / 2 < (q : Int) := by omega
                by_cases hxt : x = term
                · have hh : Hid (agreedR mm es term ms n = t + 1) := Lib.hid (by rw [Hag.out, if_pos ⟨hgt, hxt⟩])
                  have dx : (x == term) = true := by simpa using hxt
                  clear hxt hgt
                  go_wp2_with fail
                  refine Ha.out.mono ?_
                  rintro e w1 ⟨rfl, rfl⟩
                  go_wp2_with fail
                  go_ret
                  rw [hh.out]
                  exact ⟨by first | rfl | simp, rfl⟩
                · have hh : Hid (agreedR mm es term ms n = agreedR mm es term ms t) := Lib.hid (by rw [Hag.out, if_neg (fun h => hxt h.2)])
                  have dx : (x == term) = false := by simpa using hxt
                  clear hxt hgt
                  go_wp2_with fail
                  refine Ha.out.mono ?_
                  rintro e w1 ⟨rfl, rfl⟩
                  go_wp2_with fail
                  go_round
                  case rel => exact ⟨t, by omega, by first | rfl | go_num | simp, hh.out⟩
                  case measure => simp [intOf] <;> omega
              · have hgt2 : (q : Int) ≤ (mm : Int) / 2 := by omega
                have hh : Hid (agreedR mm es term ms n = agreedR mm es term ms t) := Lib.hid (by rw [Hag.out, if_neg (fun h => hgt h.1)])
                clear hgt
                go_wp2_with fail
                go_round
                case rel => exact ⟨t, by omega, by first | rfl | go_num | simp, hh.out⟩
                case measure => simp [intOf] <;> omega
    · have g1' : (mm : Int) < (N : Int) := by omega
      go_enter Try.func17, Try.ntmps17
      go_wp2_with fail
      go_loop [9] (fun i => ∃ t : Nat, t ≤ n ∧ i = .int .i64 t ∧ agreedR N es term ms n = agreedR N es term ms t) (fun i => (intOf i).toNat)
      case atStart => exact ⟨n, Nat.le_refl _, rfl, rfl⟩
      case round =>
        obtain ⟨t, ht, rfl, hag⟩ := hrel
        cases t with
        | zero =>
          have Hag := Lib.hid hag; clear hag
          go_wp2_with fail
          go_ret
          rw [Hag.out]
          exact ⟨rfl, rfl⟩
        | succ t =>
          rw [agreedR_atL, Hmm.out] at hag
          have ha := at_any B n cap (t + 1) A es w Hh.out (by omega) hn
          obtain ⟨x, hx⟩ : ∃ x, atL es (t + 1) = x := ⟨_, rfl⟩
          rw [hx] at ha hag
          have Ha := Lib.hid ha; have Hag := Lib.hid hag
          have hpos : (0 : Int) < ((t + 1 : Nat) : Int) := by omega
          clear ha hag hx
          go_wp2_with fail
          go_loop [10, 28] (fun hv i => ∃ k : Nat, k ≤ mm ∧ i = .int .i64 k ∧ hv = .int .i64 (haveN k ms (t + 1) : Nat)) (fun _ i => mm - (intOf i).toNat)
          case atStart => exact ⟨0, Nat.zero_le _, rfl, by simp [haveN]⟩
          case round =>
            obtain ⟨k, hk, rfl, rfl⟩ := hrel
            have hhl := haveN_le k ms (t + 1)
            by_cases hlt : k < mm
            · obtain ⟨ad, u, hA, had, hu, hcell⟩ := H2.out.get (show k < mm by omega)
              subst hA
              obtain ⟨y, hy, rfl⟩ := intVs_get hu
              have hs := haveN_succ k ms (t + 1) y hy
              have i1 : (k : Int) < (mm : Int) := by omega
              have i0 : 0 ≤ (k : Int) := by omega
              by_cases hge : ((t + 1 : Nat) : Int) ≤ y
              · rw [if_pos hge] at hs
                have Hs := Lib.hid hs
                have hge2 : (t : Int) + 1 ≤ y := by omega
                clear hu hy hs had hge
                go_wp2_with fail
                go_round
                case rel => exact ⟨k + 1, by omega, by go_num, by rw [Hs.out]; go_num⟩
                case measure => simp [intOf]; omega
              · rw [if_neg hge] at hs
                have Hs := Lib.hid hs
                have hge2 : y < (t : Int) + 1 := by omega
                clear hu hy hs had hge
                go_wp2_with fail
                go_round
                case rel => exact ⟨k + 1, by omega, by go_num, by rw [Hs.out]; rfl⟩
                case measure => simp [intOf]; omega
            · have hkm : k = mm := by omega
              obtain ⟨q, hq⟩ : ∃ q, haveN k ms (t + 1) = q := ⟨_, rfl⟩
              have hq2 : haveN mm ms (t + 1) = q := by rw [← hkm]; exact hq
              rw [hq2] at Hag
              rw [hq] at hhl ⊢
              have i1 : (mm : Int) ≤ (k : Int) := by omega
              clear hq hq2 hkm
              by_cases hgt : N / 2 < q
              · have hgt2 : (N : Int) / 2 < (q : Int) := by omega
                by_cases hxt : x = term
                · have hh : Hid (agreedR N es term ms n = t + 1) := Lib.hid (by rw [Hag.out, if_pos ⟨hgt, hxt⟩])
                  have dx : (x == term) = true := by simpa using hxt
                  clear hxt hgt
                  go_wp2_with fail
                  refine Ha.out.mono ?_
                  rintro e w1 ⟨rfl, rfl⟩
                  go_wp2_with fail
                  go_ret
                  rw [hh.out]
                  exact ⟨by first | rfl | simp, rfl⟩
                · have hh : Hid (agreedR N es term ms n = agreedR N es term ms t) := Lib.hid (by rw [Hag.out, if_neg (fun h => hxt h.2)])
                  have dx : (x == term) = false := by simpa using hxt
                  clear hxt hgt
                  go_wp2_with fail
                  refine Ha.out.mono ?_
                  rintro e w1 ⟨rfl, rfl⟩
                  go_wp2_with fail
                  go_round
                  case rel => exact ⟨t, by omega, by first | rfl | go_num | simp, hh.out⟩
                  case measure => simp [intOf] <;> omega
              · have hgt2 : (q : Int) ≤ (N : Int) / 2 := by omega
                have hh : Hid (agreedR N es term ms n = agreedR N es term ms t) := Lib.hid (by rw [Hag.out, if_neg (fun h => hgt h.1)])
                clear hgt
                go_wp2_with fail
                go_round
                case rel => exact ⟨t, by omega, by first | rfl | go_num | simp, hh.out⟩
                case measure => simp [intOf] <;> omega
  · have hv : agreedI nodes es term ms = 0 := by unfold agreedI; rw [if_pos (by omega)]
    rw [hv]
    have h0' : nodes < 1 := by omega
    clear h h2 hv hle hlm h0
    go_enter Try.func17, Try.ntmps17
    go_wp2_with fail
    go_ret
    exact ⟨rfl, rfl⟩
end Go.Proofs.Ytnnnilpgnjndlaa
