/- chapter 14: IndexLevels, walked. -/
import Derived.Test.YtfjilngofdahgaaIxAlive
import Derived.IntWalk
namespace Go.Proofs.Ytfjilngofdahgaa
open Go.RowKit
set_option maxHeartbeats 4000000
set_option maxRecDepth 100000
set_option linter.unusedVariables false

theorem evs14_len (i : Nat) : (evs14 i).length = i := by simp [evs14]
def at14 (m M i : Nat) : Tb × List Lv := addsX (m : Int) (M : Int) ([], []) (evs14 i)
theorem at14_succ (m M i : Nat) : at14 m M (i + 1) = addX (m : Int) (M : Int) (at14 m M i) (ev14 i) := by
  unfold at14 addsX
  rw [evs14_succ, List.foldl_append]
  rfl
theorem at14_inv {m M : Nat} (hm : 0 < m) (hM : 2 ≤ M) (i : Nat) : InvX m M i (at14 m M i) := by
  induction i with
  | zero => exact InvX.zero hm
  | succ i ih => rw [at14_succ]; exact (ih.step hM).1
theorem at14_w {m M : Nat} (hM : 2 ≤ M) (i : Nat) : wX (at14 m M i) ≤ 3 * i := by
  have := adds_w (m : Int) (M : Int) (by omega) ([], []) (evs14 i)
  rw [evs14_len] at this
  have h0 : wX (([], []) : Tb × List Lv) = 0 := rfl
  unfold at14
  omega

theorem weights_step (M m : Nat) {ls : List Int} {q : Nat} {z : Int} (h : ls[q]? = some z) : wsum M m (ls.take (q + 1)) = wsum M m (ls.take q) + z * ((m * M ^ q : Nat) : Int) := by
  have hq : q < ls.length := (List.getElem?_eq_some_iff.1 h).1
  rw [take_snocE h, wsum_app, List.length_take, Nat.min_eq_left (by omega)]
  simp only [wsum]
  omega
theorem weights_le (M m : Nat) {ls : List Int} (q : Nat) (h : ∀ x ∈ ls, 0 ≤ x) : 0 ≤ wsum M m (ls.take q) ∧ wsum M m (ls.take q) ≤ wsum M m ls := by
  refine ⟨wsum_pos M _ (fun x hx => h x (List.mem_of_mem_take hx)) m, ?_⟩
  have h1 := wsum_app M (ls.take q) (ls.drop q) m
  rw [List.take_append_drop] at h1
  have h2 := wsum_pos M (ls.drop q) (fun x hx => h x (List.mem_of_mem_drop hx)) (m * M ^ (ls.take q).length)
  omega
theorem weights_in {M m N : Nat} {ls : List Int} {q : Nat} (h : ls ≠ [] → m * M ^ (ls.length - 1) ≤ N) (hM : 2 ≤ M) (hq : q < ls.length) : m * M ^ q ≤ N := by
  have h1 := h (by intro e; subst e; simp at hq)
  exact Nat.le_trans (Nat.mul_le_mul_left m (Nat.pow_le_pow_right (by omega) (by omega))) h1

theorem indexLevels_any (n room most : Int) (W : World) (wn : (Lit.int .i64 n).wf = true) (wr : (Lit.int .i64 room).wf = true) (wm : (Lit.int .i64 most).wf = true) :
    Calls Try.prog 3 #[.int .i64 n, .int .i64 room, .int .i64 most] W fun e w' => e = .returned (.bool true) ∧ Below W.heap.size W w' := by
  by_cases h1 : n < 0
  · go_enter Try.func3, Try.ntmps3
    go_wp2_with fail
    exact (alive14_any W).mono fun e w1 ⟨he, hb⟩ => by subst he; go_wp2_with fail; go_ret; exact ⟨rfl, hb⟩
  by_cases h2 : 120 < n
  · go_enter Try.func3, Try.ntmps3
    go_wp2_with fail
    exact (alive14_any W).mono fun e w1 ⟨he, hb⟩ => by subst he; go_wp2_with fail; go_ret; exact ⟨rfl, hb⟩
  by_cases h3 : room < 1
  · go_enter Try.func3, Try.ntmps3
    go_wp2_with fail
    exact (alive14_any W).mono fun e w1 ⟨he, hb⟩ => by subst he; go_wp2_with fail; go_ret; exact ⟨rfl, hb⟩
  by_cases h4 : 20 < room
  · go_enter Try.func3, Try.ntmps3
    go_wp2_with fail
    exact (alive14_any W).mono fun e w1 ⟨he, hb⟩ => by subst he; go_wp2_with fail; go_ret; exact ⟨rfl, hb⟩
  by_cases h5 : most < 2
  · go_enter Try.func3, Try.ntmps3
    go_wp2_with fail
    exact (alive14_any W).mono fun e w1 ⟨he, hb⟩ => by subst he; go_wp2_with fail; go_ret; exact ⟨rfl, hb⟩
  by_cases h6 : 6 < most
  · go_enter Try.func3, Try.ntmps3
    go_wp2_with fail
    exact (alive14_any W).mono fun e w1 ⟨he, hb⟩ => by subst he; go_wp2_with fail; go_ret; exact ⟨rfl, hb⟩
  obtain ⟨N, rfl⟩ : ∃ N : Nat, n = (N : Int) := ⟨n.toNat, by omega⟩
  obtain ⟨m, rfl⟩ : ∃ m : Nat, room = (m : Int) := ⟨room.toNat, by omega⟩
  obtain ⟨M, rfl⟩ : ∃ M : Nat, most = (M : Int) := ⟨most.toNat, by omega⟩
  go_enter Try.func3, Try.ntmps3
  go_wp2_with fail
  refine (new_ix (m : Int) (M : Int) W W (Below.refl _ _)).mono ?_
  rintro e w1 ⟨g, rfl, hn⟩
  rw [show max (m : Int) 1 = (m : Int) from by omega, show max (M : Int) 2 = (M : Int) from by omega] at hn
  have hm0 : 0 < m := by omega
  have hM2 : 2 ≤ M := by omega
  have hN : N ≤ 120 := by omega
  have hm20 : m ≤ 20 := by omega
  have hM6 : M ≤ 6 := by omega
  have Hn := Lib.hid hn
  clear hn h1 h2 h3 h4 h5 h6
  go_wp2_with fail
  go_loopw [8] (fun i wr => ∃ k : Nat, k ≤ N ∧ i = .int .i64 (k : Int) ∧ IxNew W wr g (m : Int) (M : Int) (at14 m M k)) (fun i _ => N - (intOf i).toNat)
  case atStart => exact ⟨0, Nat.zero_le _, rfl, Hn.out⟩
  case round =>
    obtain ⟨k, hk, rfl, hi⟩ := hrel
    have hw := at14_w (m := m) hM2 k
    have hv := at14_inv hm0 hM2 k
    by_cases hlt : k < N
    · have hlt' : (k : Int) < (N : Int) := by omega
      have hadd := fun c cs hcs => add_one hi hv.srt (by omega) (by omega) (ev14 k) c cs hcs
      rw [(hv.step hM2).2, ← at14_succ, show ((1 : Nat) : Int) = 1 from rfl] at hadd
      have hv1 := at14_inv hm0 hM2 (k + 1)
      have hw1 := at14_w (m := m) hM2 (k + 1)
      have hmd : Int.tmod (k : Int) 5 = ((k % 5 : Nat) : Int) := by rw [Int.tmod_eq_emod_of_nonneg (by omega)]; omega
      have hmw : wrap64 ((k % 5 : Nat) : Int) = ((k % 5 : Nat) : Int) := by unfold wrap64; omega
      have hmem : ∀ wx, IxNew W wx g (m : Int) (M : Int) (at14 m M (k + 1)) → Calls Try.prog 11 #[.pointer (some ⟨g, 0, none⟩)] wx fun e w' => e = .returned (.int .i64 ((at14 m M (k + 1)).1.length : Int)) ∧ wx = w' := fun wx h => by
        obtain ⟨S, h1, h2, h3⟩ := h
        exact memX_any S g _ _ _ wx h1 (by omega)
      have hlev : ∀ wx, IxNew W wx g (m : Int) (M : Int) (at14 m M (k + 1)) → Calls Try.prog 12 #[.pointer (some ⟨g, 0, none⟩)] wx fun e w' => ∃ u, e = .returned u ∧ w'.ownsRow wx.heap.size 3 1 u (cutsX (at14 m M (k + 1)).2).length (intVs (cutsX (at14 m M (k + 1)).2)) ∧ Below wx.heap.size wx w' := fun wx h => by
        obtain ⟨S, h1, h2, h3⟩ := h
        exact levelsX_any S g _ _ _ wx h1 (by omega)
      have hro : ¬ ((m : Int) ≤ ((at14 m M (k + 1)).1.length : Int)) := by have := hv1.mem; omega
      have hcx := cuts_in (at14 m M (k + 1)).2 (by omega) (sz_few M _ m hv1.sz)
      have hcl : (cutsX (at14 m M (k + 1)).2).length ≤ 1000 := by
        have a1 := cuts_le (at14 m M (k + 1)).2
        have a2 := flats_len (at14 m M (k + 1)).2
        have a3 := hw1
        rw [wX_eq] at a3
        omega
      have hml : (at14 m M (k + 1)).1.length ≤ 20 := by have := hv1.mem; omega
      have HA := Lib.hid hadd; have HM := Lib.hid hmem; have HL := Lib.hid hlev; have Hcx := Lib.hid hcx
      clear hadd hmem hlev hcx hv hv1 hw hw1 hi
      go_wp2_with fail
      refine (HA.out 1 _ (by rfl)).mono ?_
      rintro e w2 ⟨rfl, hi2⟩
      have Hi2 := Lib.hid hi2
      clear hi2
      go_wp2_with fail
      refine (HM.out _ Hi2.out).mono ?_
      rintro e w3 ⟨rfl, rfl⟩
      go_wp2_with fail
      refine (HL.out _ Hi2.out).mono ?_
      rintro e w3 ⟨u, rfl, hown, hb⟩
      obtain ⟨A, c, rfl, hnc⟩ := own_slice hown
      have Hi3 := Lib.hid (Hi2.out.under hb)
      have Hr := Lib.hid (SlR.own hown)
      generalize cutsX (at14 m M (k + 1)).2 = ls at Hr Hcx hcl hnc ⊢
      obtain ⟨L, hL⟩ : ∃ L, ls.length = L := ⟨_, rfl⟩
      rw [hL] at Hr hcl hnc ⊢
      clear hown hb HA HM HL
      go_wp2_with fail
      go_loopw [10] (fun j wz => ∃ q : Nat, q ≤ L ∧ j = .int .i64 (q : Int) ∧ wz = w3) (fun j _ => L - (intOf j).toNat)
      case atStart => exact ⟨0, Nat.zero_le _, rfl, rfl⟩
      case round =>
        obtain ⟨q, hq, rfl, rfl⟩ := hrel
        by_cases hql : q < L
        · obtain ⟨ad, v, hA, _, hx, hc⟩ := Hr.out.get hql
          obtain ⟨z, hz, hzv⟩ : ∃ z, ls[q]? = some z ∧ v = .int .i64 z := by
            rw [show (intVs ls)[q]? = (ls[q]?).map (fun z => Value.int .i64 z) from by unfold intVs; rw [List.getElem?_map]] at hx
            cases hzz : ls[q]? with
            | none => rw [hzz] at hx; cases hx
            | some z => rw [hzz] at hx; injection hx with hx; exact ⟨z, rfl, hx.symm⟩
          subst hzv hA
          have hzm := Hcx.out z (List.mem_of_getElem? hz)
          have hzn : ¬ ((M : Int) ≤ z) := by omega
          have hql' : (q : Int) < (L : Int) := by omega
          clear hx hzm hz
          go_wp2_with fail
          go_roundw
          case rel => exact ⟨q + 1, by omega, by go_num, trivial⟩
          case measure => simp [intOf] <;> omega
        · obtain rfl : q = L := by omega
          clear hql
          go_wp2_with fail
          go_roundw
          case rel => exact ⟨k + 1, by omega, by go_num, Hi3.out⟩
          case measure => simp [intOf] <;> omega
    · obtain rfl : k = N := by omega
      have hmem : ∀ wx, IxNew W wx g (m : Int) (M : Int) (at14 m M k) → Calls Try.prog 11 #[.pointer (some ⟨g, 0, none⟩)] wx fun e w' => e = .returned (.int .i64 ((at14 m M k).1.length : Int)) ∧ wx = w' := fun wx h => by
        obtain ⟨S, h1, h2, h3⟩ := h
        exact memX_any S g _ _ _ wx h1 (by omega)
      have hlev : ∀ wx, IxNew W wx g (m : Int) (M : Int) (at14 m M k) → Calls Try.prog 12 #[.pointer (some ⟨g, 0, none⟩)] wx fun e w' => ∃ u, e = .returned u ∧ w'.ownsRow wx.heap.size 3 1 u (cutsX (at14 m M k).2).length (intVs (cutsX (at14 m M k).2)) ∧ Below wx.heap.size wx w' := fun wx h => by
        obtain ⟨S, h1, h2, h3⟩ := h
        exact levelsX_any S g _ _ _ wx h1 (by omega)
      have hlen : ∀ wx, IxNew W wx g (m : Int) (M : Int) (at14 m M k) → Calls Try.prog 13 #[.pointer (some ⟨g, 0, none⟩)] wx fun e w' => e = .returned (.int .i64 (k : Int)) ∧ Below wx.heap.size wx w' := fun wx h => by
        obtain ⟨S, h1, h2, h3⟩ := h
        have := lenX_any S g (m : Int) (M : Int) (at14 m M k) wx h1 (by omega)
        rw [hv.all] at this
        exact this
      have hwt := hv.weights
      have hcx := cuts_in (at14 m M k).2 (by omega) (sz_few M _ m hv.sz)
      have hcw := cuts_weight M m (at14 m M k).2
      have hml : (at14 m M k).1.length ≤ 20 := by have := hv.mem; omega
      have hcl : (cutsX (at14 m M k).2).length ≤ 1000 := by
        have a1 := cuts_le (at14 m M k).2
        have a2 := flats_len (at14 m M k).2
        have a3 := hw
        rw [wX_eq] at a3
        omega
      have HM := Lib.hid hmem; have HL := Lib.hid hlev; have HN := Lib.hid hlen; have Hi := Lib.hid hi
      clear hmem hlev hlen hi hv hw hlt
      go_wp2_with fail
      refine (HL.out _ Hi.out).mono ?_
      rintro e w3 ⟨u, rfl, hown, hb⟩
      obtain ⟨A, c, rfl, hnc⟩ := own_slice hown
      have Hi3 := Lib.hid (Hi.out.under hb)
      have Hr := Lib.hid (SlR.own hown)
      generalize cutsX (at14 m M k).2 = ls at Hr hcx hcl hcw hwt hnc ⊢
      obtain ⟨L, hL⟩ : ∃ L, ls.length = L := ⟨_, rfl⟩
      have Hcw : Hid (∀ q, q < L → m * M ^ q ≤ k) := Lib.hid (fun q hq => weights_in (M := M) (m := m) (ls := ls) (fun h => by have := hcw h; omega) hM2 (by omega))
      have Hle : Hid (∀ q, 0 ≤ wsum M m (ls.take q) ∧ wsum M m (ls.take q) ≤ 120) := Lib.hid (fun q => by have := weights_le M m q (fun x hx => (hcx x hx).1); omega)
      have Hcx := Lib.hid hcx; have Hwt := Lib.hid hwt; have Hlen := Lib.hid hL
      rw [hL] at Hr hcl hnc ⊢
      clear hown hb HL hL hcw hwt hcx
      go_wp2_with fail
      go_loopw [11, 12, 14] (fun t wt j wz => ∃ q : Nat, q ≤ L ∧ t = .int .i64 (wsum M m (ls.take q)) ∧ wt = .int .i64 ((m * M ^ q : Nat) : Int) ∧ j = .int .i64 (q : Int) ∧ wz = w3) (fun _ _ j _ => L - (intOf j).toNat)
      case atStart => exact ⟨0, Nat.zero_le _, rfl, by simp, rfl, rfl⟩
      case round =>
        obtain ⟨q, hq, rfl, rfl, rfl, rfl⟩ := hrel
        by_cases hql : q < L
        · obtain ⟨ad, v, hA, _, hx, hc⟩ := Hr.out.get hql
          obtain ⟨z, hz, hzv⟩ : ∃ z, ls[q]? = some z ∧ v = .int .i64 z := by
            rw [show (intVs ls)[q]? = (ls[q]?).map (fun z => Value.int .i64 z) from by unfold intVs; rw [List.getElem?_map]] at hx
            cases hzz : ls[q]? with
            | none => rw [hzz] at hx; cases hx
            | some z => rw [hzz] at hx; injection hx with hx; exact ⟨z, rfl, hx.symm⟩
          subst hzv hA
          have hzm := Hcx.out z (List.mem_of_getElem? hz)
          have hst := weights_step M m hz
          have hw0 := Hcw.out q hql
          have hpw : m * M ^ (q + 1) = m * M ^ q * M := by rw [Nat.pow_succ, Nat.mul_assoc]
          have hb0 := Hle.out q
          have hb1 := Hle.out (q + 1)
          generalize wsum M m (ls.take q) = t0 at hst hb0 ⊢
          generalize ht1 : wsum M m (ls.take (q + 1)) = t1 at hst hb1
          have hW1 : ((m * M ^ (q + 1) : Nat) : Int) = ((m * M ^ q : Nat) : Int) * (M : Int) := by rw [hpw]; simp
          have hwb : m * M ^ (q + 1) ≤ 720 := by rw [hpw]; calc m * M ^ q * M ≤ 120 * 6 := Nat.mul_le_mul (by omega) hM6
            _ = 720 := rfl
          generalize hmul : m * M ^ (q + 1) = W1 at hW1 hwb hpw
          generalize m * M ^ q = W0 at hW1 hw0 hst ⊢
          have hp0 : 0 ≤ z * (W0 : Int) := Int.mul_nonneg hzm.1 (by omega)
          generalize hpe : z * (W0 : Int) = pp at hst hp0
          have hp1 : wrap64 pp = pp := by unfold wrap64; omega
          have hp2 : wrap64 (t0 + pp) = t1 := by unfold wrap64; omega
          have hp3 : wrap64 (W1 : Int) = (W1 : Int) := by unfold wrap64; omega
          have hW2 := hW1.symm
          have hql' : (q : Int) < (L : Int) := by omega
          have Ht1 := Lib.hid ht1
          have Hm := Lib.hid hmul
          clear hx hzm hz hst hp0 hpw hW1 ht1 hb0 hb1 hwb hw0 hmul
          go_wp2_with fail
          go_roundw
          case rel => exact ⟨q + 1, by omega, by rw [Ht1.out, hp2], by rw [Hm.out, hp3], by go_num, trivial⟩
          case measure => simp [intOf] <;> omega
        · obtain rfl : q = L := by omega
          clear hql
          rw [List.take_of_length_le (by have := Hlen.out; omega)]
          have hws : wrap64 (wsum M m ls + ((at14 m M k).1.length : Int)) = (k : Int) := by rw [Hwt.out]; unfold wrap64; omega
          go_wp2_with fail
          refine (alive14_any _).mono ?_
          rintro e w4 ⟨rfl, hb4⟩
          have Hi4 := Lib.hid (Hi3.out.under hb4)
          clear hb4
          go_wp2_with fail
          refine (HM.out _ Hi4.out).mono ?_
          rintro e w5 ⟨rfl, rfl⟩
          go_wp2_with fail
          refine (HN.out _ Hi4.out).mono ?_
          rintro e w6 ⟨rfl, hb6⟩
          have Hi6 := Lib.hid (Hi4.out.under hb6)
          clear hb6
          go_wp2_with fail
          go_ret
          exact ⟨rfl, Hi6.out.bel⟩
end Go.Proofs.Ytfjilngofdahgaa
