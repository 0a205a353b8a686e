/- The document's own Fits, Join, Back, Agreed, walked. -/
import Derived.Test.YtnnnilpgnjndlaaShip2
import Derived.IntWalk
namespace Go.Proofs.Ytnnnilpgnjndlaa
open Go.RowKit
set_option maxHeartbeats 4000000
set_option maxRecDepth 100000
set_option linter.unusedVariables false

theorem atL_succ (es : List Int) (j : Nat) (z : Int) (h : es[j]? = some z) : atL es (j + 1) = z := by unfold atL; rw [if_neg (by omega), Nat.add_sub_cancel, h]; rfl

theorem refFits_any (B n cap : Nat) (A : Option Addr) (es : List Int) (l epoch : Int) (w : World) (h : SlR w B 1 A n (intVs es)) (hn : n ≤ 1000000) :
    Calls Try.prog 22 #[.slice A n cap, .int .i64 l, .int .i64 epoch] w fun e w' => e = .returned (.bool (fitsB es l epoch)) ∧ w = w' := by
  have hl := intVs_len h
  by_cases h0 : l = 0
  · have hv : fitsB es l epoch = true := by unfold fitsB; rw [decide_eq_true_iff]; exact .inl h0
    rw [hv]
    have d0 : (l == 0) = true := by simpa using h0
    clear h hv h0 hl
    go_enter Try.func22, Try.ntmps22
    go_wp2_with fail
    go_ret
    exact ⟨rfl, rfl⟩
  · have d0 : (l == 0) = false := by simpa using h0
    by_cases h1 : 0 < l
    · by_cases h2 : l ≤ (n : Int)
      · obtain ⟨j, rfl⟩ : ∃ j : Nat, l = ((j + 1 : Nat) : Int) := ⟨(l - 1).toNat, by omega⟩
        obtain ⟨ad, u, hA, had, hu, hcell⟩ := h.get (show j < n by omega)
        subst hA
        obtain ⟨z, hz, rfl⟩ := intVs_get hu
        have hv : fitsB es ((j + 1 : Nat) : Int) epoch = (z == epoch) := by
          unfold fitsB
          rw [Bool.eq_iff_iff, decide_eq_true_iff, beq_iff_eq, Int.toNat_natCast, atL_succ es j z hz]
          constructor
          · rintro (h | h); exact absurd h h0; exact h.2.2
          · intro h; exact .inr ⟨h1, by omega, h⟩
        rw [hv]
        have i1 : (j : Int) < (n : Int) := by omega
        have i0 : 0 ≤ (j : Int) := by omega
        have e1 : (((j + 1 : Nat) : Int) - 1) = (j : Int) := by omega
        clear h hv h0 hl hu hz had
        go_enter Try.func22, Try.ntmps22
        go_wp2_with fail
        go_ret
        exact ⟨rfl, rfl⟩
      · have hv : fitsB es l epoch = false := by unfold fitsB; rw [decide_eq_false_iff_not]; omega
        rw [hv]
        have h2' : (n : Int) < l := by omega
        clear h hv h0 hl h2
        go_enter Try.func22, Try.ntmps22
        go_wp2_with fail
        go_ret
        exact ⟨rfl, rfl⟩
    · have hv : fitsB es l epoch = false := by unfold fitsB; rw [decide_eq_false_iff_not]; omega
      rw [hv]
      have h1' : l ≤ 0 := by omega
      clear h hv h0 hl h1
      go_enter Try.func22, Try.ntmps22
      go_wp2_with fail
      go_ret
      exact ⟨rfl, rfl⟩

theorem refJoin_any (B C n m cap cm : Nat) (A D : Option Addr) (es ms : List Int) (l : Int) (w : World) (h : SlR w B 1 A n (intVs es)) (h2 : SlR w C 1 D m (intVs ms)) (hn : n ≤ 1000000) (hm : m ≤ 1000000) :
    Calls Try.prog 21 #[.slice A n cap, .int .i64 l, .slice D m cm] w fun e w' => e = .returned (.tuple #[.int .i64 ((joinI es l ms).1 : Nat), .int .i64 ((joinI es l ms).2 : Nat)]) ∧ ∃ k, w' = w.drewN k := by
  have hle := intVs_len h
  have hlm := intVs_len h2
  by_cases h0 : 0 ≤ l
  · by_cases h1 : l ≤ (n : Int)
    · obtain ⟨L, rfl⟩ : ∃ L : Nat, l = (L : Int) := ⟨l.toNat, by omega⟩
      have hL : L ≤ n := by omega
      have hv : joinI es (L : Int) ms = joinP es L ms := by unfold joinI; rw [if_neg (by omega), Int.toNat_natCast]
      rw [hv]
      obtain ⟨c, hc⟩ : ∃ c, cpl (es.drop L) ms = c := ⟨_, rfl⟩
      have hj : joinP es L ms = if c < ms.length then (L + c, ms.length - c) else (es.length, 0) := by unfold joinP; rw [hc]
      have hdl : (es.drop L).length = n - L := by rw [List.length_drop, hle]
      have hstep : ∀ i, i ≤ c → (c = i ↔ ¬ (i < (es.drop L).length ∧ i < ms.length ∧ (es.drop L)[i]? = ms[i]?)) := fun i hi => by rw [← hc]; exact cpl_step _ _ i (by rw [hc]; exact hi)
      have hcr : c ≤ ms.length := by rw [← hc]; exact cpl_le_right _ _
      rw [hle, hlm] at hj
      rw [hlm] at hcr
      have Hh := Lib.hid h; have H2 := Lib.hid h2; have Hj := Lib.hid hj; have Hstep := Lib.hid hstep; have Hdl := Lib.hid hdl; have Hlm := Lib.hid hlm
      clear h h2 hj hstep hdl hv hc hle hlm h0
      go_enter Try.func21, Try.ntmps21
      go_wp2_with fail
      go_loopw [8] (fun i wr => ∃ k q : Nat, k ≤ m ∧ i = .int .i64 k ∧ k ≤ c ∧ wr = w.drewN q) (fun i _ => m - (intOf i).toNat)
      case atStart => exact ⟨0, 0, Nat.zero_le _, rfl, Nat.zero_le _, rfl⟩
      case round =>
        obtain ⟨k, q, hk, rfl, hkc, rfl⟩ := hrel
        by_cases hlt : k < m
        · obtain ⟨ad, u, hA, had, hu, hcell⟩ := H2.out.get hlt
          subst hA
          obtain ⟨y, hy, rfl⟩ := intVs_get hu
          have hst := Hstep.out k hkc
          rw [Hdl.out, Hlm.out] at hst
          have i1 : (k : Int) < (m : Int) := by omega
          have i0 : 0 ≤ (k : Int) := by omega
          have i4 : 0 ≤ (L : Int) + (k : Int) := by omega
          have i5 : IntKind.i64.wrap ((L : Int) + (k : Int)) = (L : Int) + (k : Int) := IntWalk.i64_in _ (by omega)
          by_cases hin : L + k < n
          · obtain ⟨ad2, u2, hA2, had2, hu2, hcell2⟩ := Hh.out.get hin
            subst hA2
            obtain ⟨x, hx, rfl⟩ := intVs_get hu2
            rw [List.getElem?_drop, hx, hy] at hst
            have i2 : (L : Int) + (k : Int) < (n : Int) := by omega
            have i3 : ((L : Int) + (k : Int)).toNat = L + k := by omega
            have d0 : decide ((n : Int) ≤ (L : Int) + (k : Int)) = false := by simpa using i2
            by_cases hxy : x = y
            · have hck : k + 1 ≤ c := by
                have : c ≠ k := fun e => (hst.1 e) ⟨by omega, hlt, by rw [hxy]⟩
                omega
              have d1 : (x != y) = false := by simpa using hxy
              clear hu hy hst hu2 hx hxy had had2
              go_wp2_with fail
              go_quiet (fail)
              clear i3 i5
              go_wp2_with fail
              go_roundw
              case rel => exact ⟨k + 1, _, by omega, by go_num, hck, rfl⟩
              case measure => simp [intOf] <;> omega
            · have hck : c = k := hst.2 (fun h => hxy (by simpa using h.2.2))
              have d1 : (x != y) = true := by rw [bne_iff_ne]; exact hxy
              have Hck := Lib.hid hck
              clear hu hy hst hu2 hx hxy had had2 hck
              go_wp2_with fail
              go_quiet (fail)
              clear i3 i5
              go_wp2_with fail
              go_ret2
              rw [Hj.out, Hck.out, if_pos hlt]
              exact ⟨by rw [Int.natCast_add, Int.ofNat_sub (by omega)]; rfl, _, by first | rfl | exact World.drewN_drewN _ _ _⟩
          · have hck : c = k := hst.2 (fun h => by omega)
            have Hck := Lib.hid hck
            have i2 : (n : Int) ≤ (L : Int) + (k : Int) := by omega
            have d0 : decide ((n : Int) ≤ (L : Int) + (k : Int)) = true := by simpa using i2
            clear hu hy hst had hck hin
            go_wp2_with fail
            go_quiet (fail)
            clear i5
            go_wp2_with fail
            go_ret2
            rw [Hj.out, Hck.out, if_pos hlt]
            exact ⟨by rw [Int.natCast_add, Int.ofNat_sub (by omega)]; rfl, _, by first | rfl | exact World.drewN_drewN _ _ _⟩
        · obtain rfl : k = m := by omega
          go_wp2_with fail
          go_ret2
          rw [Hj.out, if_neg (by omega)]
          exact ⟨rfl, _, rfl⟩
    · have hv : joinI es l ms = (0, 0) := by unfold joinI; rw [if_pos (by omega)]
      rw [hv]
      have h1' : (n : Int) < l := by omega
      clear h h2 hv hle hlm h1
      go_enter Try.func21, Try.ntmps21
      go_wp2_with fail
      go_ret2
      exact ⟨rfl, 0, rfl⟩
  · have hv : joinI es l ms = (0, 0) := by unfold joinI; rw [if_pos (by omega)]
    rw [hv]
    have h0' : l < 0 := by omega
    clear h h2 hv hle hlm h0
    go_enter Try.func21, Try.ntmps21
    go_wp2_with fail
    go_ret2
    exact ⟨rfl, 0, rfl⟩

theorem refBack_any (B n cap : Nat) (A : Option Addr) (es : List Int) (fr epoch : Int) (w : World) (h : SlR w B 1 A n (intVs es)) (hn : n ≤ 1000000) (hf : -9223372036854775808 ≤ fr ∧ fr ≤ 9223372036854775807) :
    Calls Try.prog 23 #[.slice A n cap, .int .i64 fr, .int .i64 epoch] w fun e w' => e = .returned (.int .i64 (backR es epoch (min fr (n : Int)).toNat : Nat)) ∧ w = w' := by
  obtain ⟨hf1, hf2⟩ := hf
  obtain ⟨N, hN, hcase⟩ : ∃ N : Nat, (min fr (n : Int)).toNat = N ∧ (fr = (N : Int) ∧ N ≤ n ∨ (n : Int) < fr ∧ N = n ∨ fr < 0 ∧ N = 0) := by
    by_cases hfn : fr ≤ (n : Int)
    · by_cases h0 : 0 ≤ fr
      · exact ⟨fr.toNat, by omega, .inl ⟨by omega, by omega⟩⟩
      · exact ⟨0, by omega, .inr (.inr ⟨by omega, rfl⟩)⟩
    · exact ⟨n, by omega, .inr (.inl ⟨by omega, rfl⟩)⟩
  rw [hN]
  have Hh := Lib.hid h; clear h hN
  rcases hcase with ⟨rfl, hNn⟩ | ⟨hfr, rfl⟩ | ⟨hfr, rfl⟩
  · go_enter Try.func23, Try.ntmps23
    go_wp2_with fail
    go_loop [7] (fun i => ∃ m : Nat, m ≤ N ∧ i = .int .i64 m ∧ backR es epoch N = backR es epoch m) (fun i => (intOf i).toNat)
    case atStart => exact ⟨N, Nat.le_refl _, rfl, rfl⟩
    case round =>
      obtain ⟨m, hm, rfl, hbk⟩ := hrel
      cases m with
      | zero =>
        have Hbk := Lib.hid hbk; clear hbk
        go_wp2_with fail
        go_ret
        rw [Hbk.out]
        exact ⟨rfl, rfl⟩
      | succ m =>
        obtain ⟨ad, u, hA, had, hu, hcell⟩ := Hh.out.get (show m < n by omega)
        subst hA
        obtain ⟨x, hx, rfl⟩ := intVs_get hu
        rw [backR_atL, atL_succ es m x hx] at hbk
        have hpos : (0 : Int) < ((m + 1 : Nat) : Int) := by omega
        have i1 : (m : Int) < (n : Int) := by omega
        have i0 : 0 ≤ (m : Int) := by omega
        have e1 : (((m + 1 : Nat) : Int) - 1) = (m : Int) := by omega
        clear hu hx had
        by_cases hle : x ≤ epoch
        · rw [if_pos hle] at hbk
          have Hbk := Lib.hid hbk
          clear hbk
          go_wp2_with fail
          go_ret
          rw [Hbk.out]
          exact ⟨by first | rfl | simp, rfl⟩
        · rw [if_neg hle] at hbk
          have hle' : epoch < x := by omega
          have Hbk := Lib.hid hbk
          clear hbk hle
          go_wp2_with fail
          go_round
          case rel => exact ⟨m, by omega, by first | rfl | go_num | simp, Hbk.out⟩
          case measure => simp [intOf] <;> omega
  · obtain ⟨M, hM⟩ : ∃ M : Nat, M = N := ⟨N, rfl⟩
    go_enter Try.func23, Try.ntmps23
    go_wp2_with fail
    go_loop [7] (fun i => ∃ m : Nat, m ≤ N ∧ i = .int .i64 m ∧ backR es epoch N = backR es epoch m) (fun i => (intOf i).toNat)
    case atStart => exact ⟨N, Nat.le_refl _, rfl, rfl⟩
    case round =>
      obtain ⟨m, hm, rfl, hbk⟩ := hrel
      cases m with
      | zero =>
        have Hbk := Lib.hid hbk; clear hbk
        go_wp2_with fail
        go_ret
        rw [Hbk.out]
        exact ⟨rfl, rfl⟩
      | succ m =>
        obtain ⟨ad, u, hA, had, hu, hcell⟩ := Hh.out.get (show m < N by omega)
        subst hA
        obtain ⟨x, hx, rfl⟩ := intVs_get hu
        rw [backR_atL, atL_succ es m x hx] at hbk
        have hpos : (0 : Int) < ((m + 1 : Nat) : Int) := by omega
        have i1 : (m : Int) < (N : Int) := by omega
        have i0 : 0 ≤ (m : Int) := by omega
        have e1 : (((m + 1 : Nat) : Int) - 1) = (m : Int) := by omega
        clear hu hx had
        by_cases hle : x ≤ epoch
        · rw [if_pos hle] at hbk
          have Hbk := Lib.hid hbk
          clear hbk
          go_wp2_with fail
          go_ret
          rw [Hbk.out]
          exact ⟨by first | rfl | simp, rfl⟩
        · rw [if_neg hle] at hbk
          have hle' : epoch < x := by omega
          have Hbk := Lib.hid hbk
          clear hbk hle
          go_wp2_with fail
          go_round
          case rel => exact ⟨m, by omega, by first | rfl | go_num | simp, Hbk.out⟩
          case measure => simp [intOf] <;> omega
  · have h0' : fr ≤ 0 := by omega
    have hv : backR es epoch 0 = 0 := rfl
    rw [hv]
    clear hv
    go_enter Try.func23, Try.ntmps23
    go_wp2_with fail
    refine wp_loop_rounds 1 ?_
    rw [rounds_succ]
    go_wp2_with fail
    go_ret
    exact ⟨rfl, rfl⟩

theorem refAgreed_any (B C n m cap cm : Nat) (A D : Option Addr) (es ms : List Int) (nodes term : Int) (w : World) (h : SlR w B 1 A n (intVs es)) (h2 : SlR w C 1 D m (intVs ms)) (hn : n ≤ 1000000) (hm : m ≤ 1000000)
    (hno : -9223372036854775808 ≤ nodes ∧ nodes ≤ 9223372036854775807) :
    Calls Try.prog 24 #[.int .i64 nodes, .slice A n cap, .int .i64 term, .slice D m cm] w fun e w' => e = .returned (.int .i64 (agreedI nodes es term ms : Nat)) ∧ w = w' := by
  obtain ⟨hno1, hno2⟩ := hno
  have hle := intVs_len h
  have hlm := intVs_len h2
  by_cases h0 : 1 ≤ nodes
  · obtain ⟨N, rfl⟩ : ∃ N : Nat, nodes = (N : Int) := ⟨nodes.toNat, by omega⟩
    have hN1 : 1 ≤ N := by omega
    have hv : agreedI (N : Int) es term ms = agreedR N es term ms n := by unfold agreedI; rw [if_neg (by omega), Int.toNat_natCast, hle]
    rw [hv]
    have Hh := Lib.hid h; have H2 := Lib.hid h2; have Hlm := Lib.hid hlm
    have dN : decide ((1 : Int) ≤ (N : Int)) = true := by simpa using h0
    clear h h2 hv h0 hle hlm
    go_enter Try.func24, Try.ntmps24
    go_wp2_with fail
    go_loop [9] (fun i => ∃ t : Nat, t ≤ n ∧ i = .int .i64 t ∧ agreedR N es term ms n = agreedR N es term ms t) (fun i => (intOf i).toNat)
    case atStart => exact ⟨n, Nat.le_refl _, rfl, rfl⟩
    case round =>
      obtain ⟨t, ht, rfl, hag⟩ := hrel
      cases t with
      | zero =>
        have Hag := Lib.hid hag; clear hag
        go_wp2_with fail
        go_ret
        rw [Hag.out]
        exact ⟨rfl, rfl⟩
      | succ t =>
        obtain ⟨ad0, u0, hA0, had0, hu0, hcell0⟩ := Hh.out.get (show t < n by omega)
        subst hA0
        obtain ⟨x, hx, rfl⟩ := intVs_get hu0
        rw [agreedR_atL, atL_succ es t x hx] at hag
        have Hag := Lib.hid hag
        have hpos : (0 : Int) < ((t + 1 : Nat) : Int) := by omega
        have t1 : (t : Int) < (n : Int) := by omega
        have t0 : 0 ≤ (t : Int) := by omega
        clear hag hx hu0 had0
        go_wp2_with fail
        go_loop [10, 11] (fun hv i => ∃ k : Nat, k ≤ m ∧ k ≤ N ∧ i = .int .i64 k ∧ hv = .int .i64 (haveN k ms (t + 1) : Nat)) (fun _ i => m - (intOf i).toNat)
        case atStart => exact ⟨0, Nat.zero_le _, Nat.zero_le _, rfl, by simp [haveN]⟩
        case round =>
          obtain ⟨k, hk, hkN, rfl, rfl⟩ := hrel
          have hhl := haveN_le k ms (t + 1)
          by_cases hlt : k < m ∧ k < N
          · obtain ⟨hlt, hltN⟩ := hlt
            obtain ⟨ad, u, hA, had, hu, hcell⟩ := H2.out.get hlt
            subst hA
            obtain ⟨y, hy, rfl⟩ := intVs_get hu
            have hs := haveN_succ k ms (t + 1) y hy
            have i1 : (k : Int) < (m : Int) := by omega
            have i0 : 0 ≤ (k : Int) := by omega
            have i2 : (k : Int) < (N : Int) := by omega
            by_cases hge : ((t + 1 : Nat) : Int) ≤ y
            · rw [if_pos hge] at hs
              have Hs := Lib.hid hs
              have hge2 : (t : Int) + 1 ≤ y := by omega
              clear hu hy hs had hge
              go_wp2_with fail
              go_round
              case rel => exact ⟨k + 1, by omega, by omega, by go_num, by rw [Hs.out]; go_num⟩
              case measure => simp [intOf]; omega
            · rw [if_neg hge] at hs
              have Hs := Lib.hid hs
              have hge2 : y < (t : Int) + 1 := by omega
              clear hu hy hs had hge
              go_wp2_with fail
              go_round
              case rel => exact ⟨k + 1, by omega, by omega, by go_num, by rw [Hs.out]; rfl⟩
              case measure => simp [intOf]; omega
          · have hkm : haveN N ms (t + 1) = haveN k ms (t + 1) := by
              by_cases hm' : k < m
              · obtain rfl : k = N := by omega
                rfl
              · rw [haveN_all N ms _ (by rw [Hlm.out]; omega), haveN_all k ms _ (by rw [Hlm.out]; omega)]
            obtain ⟨q, hq⟩ : ∃ q, haveN k ms (t + 1) = q := ⟨_, rfl⟩
            rw [hkm, hq] at Hag
            rw [hq] at hhl ⊢
            have e1 : ((t + 1 : Nat) : Int) - 1 = (t : Int) := by omega
            have hcase : (m : Int) ≤ (k : Int) ∨ (k : Int) < (m : Int) ∧ (N : Int) ≤ (k : Int) := by omega
            clear hq hkm hlt
            rcases hcase with i1 | ⟨i1, i2⟩
            all_goals
              by_cases hgt : N / 2 < q
              · have hgt2 : (N : Int) / 2 < (q : Int) := by omega
                by_cases hxt : x = term
                · have hh : Hid (agreedR N es term ms n = t + 1) := Lib.hid (by rw [Hag.out, if_pos ⟨hgt, hxt⟩])
                  have dx : (x == term) = true := by simpa using hxt
                  clear hxt hgt
                  go_wp2_with fail
                  go_ret
                  rw [hh.out]
                  exact ⟨by first | rfl | simp, rfl⟩
                · have hh : Hid (agreedR N es term ms n = agreedR N es term ms t) := Lib.hid (by rw [Hag.out, if_neg (fun h => hxt h.2)])
                  have dx : (x == term) = false := by simpa using hxt
                  clear hxt hgt
                  go_wp2_with fail
                  go_round
                  case rel => exact ⟨t, by omega, by first | rfl | go_num | simp, hh.out⟩
                  case measure => simp [intOf] <;> omega
              · have hgt2 : (q : Int) ≤ (N : Int) / 2 := by omega
                have hh : Hid (agreedR N es term ms n = agreedR N es term ms t) := Lib.hid (by rw [Hag.out, if_neg (fun h => hgt h.1)])
                clear hgt
                go_wp2_with fail
                go_round
                case rel => exact ⟨t, by omega, by first | rfl | go_num | simp, hh.out⟩
                case measure => simp [intOf] <;> omega
  · have hv : agreedI nodes es term ms = 0 := by unfold agreedI; rw [if_pos (by omega)]
    rw [hv]
    have h0' : nodes < 1 := by omega
    have dN : decide ((1 : Int) ≤ nodes) = false := by simpa using h0
    clear h h2 hv hle hlm h0
    go_enter Try.func24, Try.ntmps24
    go_wp2_with fail
    refine wp_loop_rounds 1 ?_
    rw [rounds_succ]
    go_wp2_with fail
    all_goals
      go_ret
      exact ⟨rfl, rfl⟩
end Go.Proofs.Ytnnnilpgnjndlaa
