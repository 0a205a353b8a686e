/- slices.Compact of entries. -/
import Derived.Test.YtfkkcgdniepgoaaGreatCTableMergesTabRow
import Derived.Test.YtfkkcgdniepgoaaGreatJTableMerges1
import Derived.Test.YtfkkcgdniepgoaaGreatJTableMerges2

namespace Go.Proofs.YtfkkcgdniepgoaaGreat
open Go.RowKit
set_option maxHeartbeats 4000000
set_option maxRecDepth 100000
set_option linter.unusedVariables false

theorem run_neq_enC (w : World) (x y z u v t : Int) : (binOp .neq 53 (.agg #[.int .i64 x, .int .i64 y, .int .i64 z]) (.agg #[.int .i64 u, .int .i64 v, .int .i64 t])).run Tryz.prog w = .ok (.bool (!((x == u) && ((y == v) && (z == t))))) w := by
  go_simp
  split
  · split
    · split <;> simp_all
    · simp_all
  · simp_all
theorem en_beq (x0 x1 x2 y0 y1 y2 : Int) : ((x0 == y0) && ((x1 == y1) && (x2 == y2))) = decide (((x0, x1, x2) : En) = (y0, y1, y2)) := by
  rw [Bool.eq_iff_iff]
  simp

theorem compact_any (base g n cap : Nat) (l : List En) (w : World) (hown : w.ownsRow base 53 3 (.slice (some ⟨g, 0, none⟩) n cap) n (enVs l)) (hn : n ≤ 1000000) :
    Calls Tryz.prog 78 #[.slice (some ⟨g, 0, none⟩) n cap] w fun x w' => ∃ u, x = .returned u ∧ w'.ownsRow base 53 3 u (dedE l).length (enVs (dedE l)) ∧ w.grownBy w' (some g) := by
  have hl : l.length = n := by have := hown.1; rw [enVs_length] at this; omega
  obtain ⟨_, hnc⟩ : 0 ≤ n ∧ n ≤ cap := ⟨Nat.zero_le _, by obtain ⟨A, c, hv, h⟩ := own_slice hown; injection hv with _ _ hc; omega⟩
  by_cases h2 : n < 2
  · have h2' : decide ((n : Int) < 2) = true := by rw [decide_eq_true_iff]; omega
    have hd : dedE l = l := by
      match l, hl with
      | [], _ => rfl
      | [a], _ => simp [dedE, dedTo]
      | a :: b :: l, h => simp at h; omega
    have Hown := Lib.hid hown
    rw [hd, hl]
    clear hown hd
    go_enter Tryz.func78, Tryz.ntmps78
    go_wp2_with fail
    go_ret
    exact ⟨_, rfl, Hown.out, grown_belowC (Below.refl _ _)⟩
  · have h2' : decide ((n : Int) < 2) = false := by rw [decide_eq_false_iff_not]; omega
    have Hown := Lib.hid hown; have Hl := Lib.hid hl
    have h1n : 1 ≤ n := by omega
    clear hown hl h2
    go_enter Tryz.func78, Tryz.ntmps78
    go_wp2_with fail
    go_loopw [3] (fun i wr => ∃ k q : Nat, 1 ≤ k ∧ k ≤ n ∧ i = .int .i64 (k : Int) ∧ wr = w.drewN q ∧ Hid (dedTo l k = l.take k)) (fun i _ => n - (intOf i).toNat)
    case atStart => exact ⟨1, 0, Nat.le_refl _, h1n, rfl, rfl, Lib.hid (by
      have : l[0]? = some (l[0]'(by rw [Hl.out]; exact h1n)) := List.getElem?_eq_getElem _
      rw [dedTo_unlike this (fun h => absurd h (by omega)), List.take_add_one, this]
      simp [dedTo])⟩
    case round =>
      obtain ⟨k, q, hk1, hk, rfl, rfl, HD⟩ := hrel
      have hk0 : 0 ≤ (k : Int) := by omega
      by_cases hlt : k < n
      · have hlt' : (k : Int) < (n : Int) := by omega
        obtain ⟨x, hx⟩ : ∃ x, l[k]? = some x := ⟨_, List.getElem?_eq_getElem (by rw [Hl.out]; exact hlt)⟩
        obtain ⟨j, hj⟩ : ∃ j, k - 1 = j := ⟨_, rfl⟩
        obtain ⟨y, hy⟩ : ∃ y, l[j]? = some y := ⟨_, List.getElem?_eq_getElem (by rw [Hl.out]; omega)⟩
        have k0 := (Hown.out.cellAt (k * 3) (by omega)).trans (enVs_get l k 0 _ hx (by omega))
        have k1 := (Hown.out.cellAt (k * 3 + 1) (by omega)).trans (enVs_get l k 1 _ hx (by omega))
        have k2 := (Hown.out.cellAt (k * 3 + 2) (by omega)).trans (enVs_get l k 2 _ hx (by omega))
        have m0 := (Hown.out.cellAt (j * 3) (by omega)).trans (enVs_get l j 0 _ hy (by omega))
        have m1 := (Hown.out.cellAt (j * 3 + 1) (by omega)).trans (enVs_get l j 1 _ hy (by omega))
        have m2 := (Hown.out.cellAt (j * 3 + 2) (by omega)).trans (enVs_get l j 2 _ hy (by omega))
        have Hx := Lib.hid hx; have Hy := Lib.hid hy; have Hj := Lib.hid hj
        obtain ⟨x0, x1, x2⟩ := x
        obtain ⟨y0, y1, y2⟩ := y
        simp [enC] at k0 k1 k2 m0 m1 m2
        have hjk : (k : Int) - 1 = (j : Int) := by omega
        have hjw : IntKind.i64.wrap ((k : Int) - 1) = (j : Int) := by rw [IntWalk.i64_in _ (by omega)]; exact hjk
        have hjw2 : IntKind.i64.wrap (j : Int) = (j : Int) := IntWalk.i64_in _ (by omega)
        have hj0 : 0 ≤ (j : Int) := by omega
        have hj1 : (j : Int) < (n : Int) := by omega
        have hEq := fun w => run_eql_en w x0 x1 x2 y0 y1 y2
        simp only [en_beq] at hEq
        clear hx hy hj
        by_cases hxy : ((x0, x1, x2) : En) = (y0, y1, y2)
        · simp only [decide_eq_true hxy] at hEq
          go_wp2_with fail
          go_quiet (fail)
          go_wp2_with fail
          obtain ⟨nk, hnk⟩ : ∃ nk, n - k = nk := ⟨_, rfl⟩
          obtain ⟨ck, hck⟩ : ∃ ck, cap - k = ck := ⟨_, rfl⟩
          rw [hnk, hck]
          have HK : Hid (k + nk = n) := Lib.hid (by omega)
          have Hd1 : Hid (dedTo l (k + 1) = l.take k) := Lib.hid (by rw [dedTo_like hk1 Hx.out (by rw [Hj.out, Hy.out, hxy]), HD.out])
          have hnk1 : 1 ≤ nk := by omega
          have hnk2 : nk ≤ ck := by omega
          clear hnk hck hEq hxy k0 k1 k2 m0 m1 m2
          go_loopw [3, 5] (fun ok o2 wr => ∃ (k' k2 : Nat) (M : List En), ok = .int .i64 (k' : Int) ∧ o2 = .int .i64 (k2 : Int) ∧ k ≤ k' ∧ k' < k + k2 ∧ 1 ≤ k2 ∧ k2 ≤ nk ∧ Hid (wr.ownsRow base 53 3 (.slice (some ⟨g, 0, none⟩) n cap) n (enVs M) ∧ M.take k' = dedTo l (k + k2) ∧ (∀ j, k + k2 ≤ j + 1 → M[j]? = l[j]?) ∧ w.grownBy wr (some g))) (fun _ o2 _ => nk - (intOf o2).toNat)
          case atStart => exact ⟨k, 1, l, rfl, rfl, Nat.le_refl _, by omega, Nat.le_refl _, hnk1, Lib.hid ⟨own_below Hown.out (below_drewN (Below.refl w.heap.size w) _) (fun q hq => (Hown.out.lt q hq).2), Hd1.out.symm, fun _ _ => rfl, grown_belowC (below_drewN (Below.refl _ _) _)⟩⟩
          case round =>
            obtain ⟨k', k2, M, rfl, rfl, hkk, hk'2, hk21, hk2, HI⟩ := hrel
            have hMl : M.length = n := by have := HI.out.1.1; rw [enVs_length] at this; omega
            have hk'0 : 0 ≤ (k' : Int) := by omega
            have hk20 : 0 ≤ (k2 : Int) := by omega
            have HKn := HK.out
            by_cases hlt2 : k2 < nk
            · have hlt2' : (k2 : Int) < (nk : Int) := by omega
              obtain ⟨x, hx⟩ : ∃ x, l[k + k2]? = some x := ⟨_, List.getElem?_eq_getElem (by rw [Hl.out]; omega)⟩
              obtain ⟨j2, hj2⟩ : ∃ j, k2 - 1 = j := ⟨_, rfl⟩
              obtain ⟨y, hy⟩ : ∃ y, l[k + j2]? = some y := ⟨_, List.getElem?_eq_getElem (by rw [Hl.out]; omega)⟩
              have hMx := (HI.out.2.2.1 (k + k2) (by omega)).trans hx
              have hMy := (HI.out.2.2.1 (k + j2) (by omega)).trans hy
              have k0 := enVs_get M (k + k2) 0 _ hMx (by omega); rw [Nat.add_mul] at k0; replace k0 := (HI.out.1.cellAt _ (by omega)).trans k0
              have k1 := enVs_get M (k + k2) 1 _ hMx (by omega); rw [Nat.add_mul] at k1; replace k1 := (HI.out.1.cellAt _ (by omega)).trans k1
              have k2' := enVs_get M (k + k2) 2 _ hMx (by omega); rw [Nat.add_mul] at k2'; replace k2' := (HI.out.1.cellAt _ (by omega)).trans k2'
              have m0 := enVs_get M (k + j2) 0 _ hMy (by omega); rw [Nat.add_mul] at m0; replace m0 := (HI.out.1.cellAt _ (by omega)).trans m0
              have m1 := enVs_get M (k + j2) 1 _ hMy (by omega); rw [Nat.add_mul] at m1; replace m1 := (HI.out.1.cellAt _ (by omega)).trans m1
              have m2 := enVs_get M (k + j2) 2 _ hMy (by omega); rw [Nat.add_mul] at m2; replace m2 := (HI.out.1.cellAt _ (by omega)).trans m2
              have Hx2 := Lib.hid hx; have Hy2 := Lib.hid hy
              have Hj2 := Lib.hid hj2
              have HMl := Lib.hid hMl
              obtain ⟨x0, x1, x2⟩ := x
              obtain ⟨y0, y1, y2⟩ := y
              simp [enC] at k0 k1 k2' m0 m1 m2
              have hjk2 : (k2 : Int) - 1 = (j2 : Int) := by omega
              have hjw' : IntKind.i64.wrap ((k2 : Int) - 1) = (j2 : Int) := by rw [IntWalk.i64_in _ (by omega)]; exact hjk2
              have hjw2' : IntKind.i64.wrap (j2 : Int) = (j2 : Int) := IntWalk.i64_in _ (by omega)
              have hj20 : 0 ≤ (j2 : Int) := by omega
              have hj21 : (j2 : Int) < (nk : Int) := by omega
              have hk21' : (k2 : Int) ≤ 1000000 := by omega
              have hk'1 : (k' : Int) ≤ 1000000 := by omega
              have hk'n : (k' : Int) < (n : Int) := by omega
              have hNe := fun w => run_neq_enC w x0 x1 x2 y0 y1 y2
              simp only [en_beq] at hNe
              have hlast : k + k2 - 1 = k + j2 := by omega
              have Hlast := Lib.hid hlast
              have hgw := (HI.out.1.lt g rfl).2
              clear hx hy hj2 hMx hMy hMl HKn hlast
              by_cases hxy2 : ((x0, x1, x2) : En) = (y0, y1, y2)
              · simp only [decide_eq_true hxy2, Bool.not_true] at hNe
                have hfin : Hid (M.take k' = dedTo l (k + (k2 + 1))) := Lib.hid (by
                  rw [HI.out.2.1, ← Nat.add_assoc, dedTo_like (by omega) Hx2.out (by rw [Hlast.out, Hy2.out, hxy2])])
                go_wp2_with fail
                go_quiet (fail)
                go_wp2_with fail
                go_roundw
                case rel => exact ⟨k', k2 + 1, M, rfl, by go_num, hkk, by omega, by omega, by omega, Lib.hid ⟨own_below HI.out.1 (below_drewN (Below.refl wr.heap.size wr) _) (fun q hq => (HI.out.1.lt q hq).2), hfin.out, fun j hj => HI.out.2.2.1 j (by omega), HI.out.2.2.2.trans (grown_belowC (below_drewN (Below.refl _ _) _))⟩⟩
                case measure => simp [intOf]; omega
              · simp only [decide_eq_false hxy2, Bool.not_false] at hNe
                have HDn : Hid (dedTo l (k + (k2 + 1)) = dedTo l (k + k2) ++ [(x0, x1, x2)]) := Lib.hid (by
                  rw [← Nat.add_assoc, dedTo_unlike Hx2.out (fun _ => by rw [Hlast.out, Hy2.out]; intro e; injection e with e; exact hxy2 e.symm)])
                obtain ⟨z, hz⟩ : ∃ z, M[k']? = some z := ⟨_, List.getElem?_eq_getElem (by rw [HMl.out]; omega)⟩
                have Hz := Lib.hid hz
                clear hz
                go_wp2_with fail
                go_quiet (fail)
                have hO2 := own_below HI.out.1 (below_drewN (Below.refl wr.heap.size wr) nq) (fun q hq => (HI.out.1.lt q hq).2)
                have t0 := (HI.out.1.cellAt (k' * 3) (by omega)).trans (enVs_get M k' 0 _ Hz.out (by omega))
                have t1 := (HI.out.1.cellAt (k' * 3 + 1) (by omega)).trans (enVs_get M k' 1 _ Hz.out (by omega))
                have t2 := (HI.out.1.cellAt (k' * 3 + 2) (by omega)).trans (enVs_get M k' 2 _ Hz.out (by omega))
                obtain ⟨z0, z1, z2⟩ := z
                simp [enC] at t0 t1 t2
                have hfz := HI.out.1.frozenAt
                have hset := own_setM (enC (x0, x1, x2)) (enVs M) (k' * 3) _ hO2
                rw [enVs_setC M k' _ (by rw [HMl.out]; omega)] at hset
                have hfin : Hid (((wr.drewN nq).setCells g (k' * 3) (enC (x0, x1, x2))).ownsRow base 53 3 (.slice (some ⟨g, 0, none⟩) n cap) n (enVs (M.set k' (x0, x1, x2))) ∧ (M.set k' (x0, x1, x2)).take (k' + 1) = dedTo l (k + (k2 + 1)) ∧ (∀ j, k + (k2 + 1) ≤ j + 1 → (M.set k' (x0, x1, x2))[j]? = l[j]?) ∧ w.grownBy ((wr.drewN nq).setCells g (k' * 3) (enC (x0, x1, x2))) (some g)) := Lib.hid ⟨hset.1, by
                  rw [HDn.out, ← HI.out.2.1, List.take_add_one, List.getElem?_set_self (by rw [HMl.out]; omega), List.take_set_of_le (Nat.le_refl _)]; rfl, fun j hj => by rw [List.getElem?_set_ne (by omega)]; exact HI.out.2.2.1 j (by omega), (HI.out.2.2.2.trans (grown_belowC (below_drewN (Below.refl _ _) nq))).trans hset.2⟩
                clear hO2 hset m0 m1 m2
                go_wp2_with fail
                go_roundw
                case rel => exact ⟨k' + 1, k2 + 1, _, by go_num, by go_num, by omega, by omega, by omega, by omega, hfin⟩
                case measure => simp [intOf]; omega
            · obtain rfl : k2 = nk := by omega
              have hd2 : decide ((k2 : Int) < (k2 : Int)) = false := by simp
              rw [HK.out] at hk'2 HI
              have hk'n : (k' : Int) ≤ (n : Int) := by omega
              have hk'c : (k' : Int) ≤ (cap : Int) := by omega
              obtain ⟨zs, hzs⟩ : ∃ zs, zs = (Builtin.zeroCells (Value.agg #[.int .i64 0, .int .i64 0, .int .i64 0]).cells (n - k')).toList := ⟨_, rfl⟩
              have hzl : zs.length = (n - k') * 3 := by rw [hzs]; exact zeros_len _
              have hcl : ∀ ty cc, (Builtin.clear_ #[22] ty #[.slice (some ⟨g, k' * 3, none⟩) (n - k') cc]).run Tryz.prog wr = .ok (.tuple #[]) (wr.setCells g (k' * 3) zs) := fun ty cc =>
                run_clear_many wr _ _ ty _ Tryz.underlying22 zero_en zs (n - k') (by omega) hzs.symm (by rw [hzs]; exact zeros_one _) g (k' * 3) cc
                  (fun t ht => by
                    have hl : k' * 3 + t < (enVs M).length := by rw [enVs_length]; omega
                    rw [HI.out.1.cellAt _ (by omega), List.getElem?_eq_getElem hl]; rfl) (fun t ht => HI.out.1.frozenAt _)
              have hset := own_setM zs (enVs M) (k' * 3) wr HI.out.1
              have hsh := own_short (m := k') hset.1 (by omega)
              rw [setM_eq _ _ _ (by rw [enVs_length, hzl]; omega), List.append_assoc, List.take_left' (by rw [List.length_take, enVs_length]; omega), enVs_take, HI.out.2.1] at hsh
              have hdl : (dedE l).length = k' := by
                unfold dedE
                rw [Hl.out, ← HI.out.2.1, List.length_take]; omega
              have hfin := Lib.hid (And.intro hsh (HI.out.2.2.2.trans hset.2))
              have Hdl := Lib.hid hdl
              have Hde : Hid (dedE l = dedTo l n) := Lib.hid (by unfold dedE; rw [Hl.out])
              clear hzs hzl hset hsh hdl hMl HKn
              go_wp2_with fail
              go_ret
              exact ⟨_, rfl, by rw [Hdl.out, Hde.out]; exact hfin.out.1, hfin.out.2⟩
        · simp only [decide_eq_false hxy] at hEq
          have hfin : Hid (dedTo l (k + 1) = l.take (k + 1)) := Lib.hid (by
            rw [dedTo_unlike Hx.out (fun h => by rw [Hj.out, Hy.out]; intro e; injection e with e; exact hxy e.symm), List.take_add_one, Hx.out, HD.out]
            rfl)
          go_wp2_with fail
          go_quiet (fail)
          go_wp2_with fail
          go_roundw
          case rel => exact ⟨k + 1, _, by omega, by omega, by go_num, rfl, hfin⟩
          case measure => simp [intOf]; omega
      · obtain rfl : k = n := by omega
        have hdk : decide ((k : Int) < (k : Int)) = false := by simp
        have hd : dedE l = l := by unfold dedE; rw [Hl.out, HD.out, List.take_of_length_le (by rw [Hl.out]; exact Nat.le_refl _)]
        have Hd := Lib.hid hd
        clear hd
        go_wp2_with fail
        go_ret
        exact ⟨_, rfl, by rw [Hd.out, Hl.out]; exact own_below Hown.out (below_drewN (Below.refl w.heap.size w) q) (fun q hq => (Hown.out.lt q hq).2), grown_belowC (below_drewN (Below.refl _ _) q)⟩
end Go.Proofs.YtfkkcgdniepgoaaGreat
