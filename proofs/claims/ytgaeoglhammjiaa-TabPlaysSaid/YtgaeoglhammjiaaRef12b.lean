/- chapter 12: the document's Last. -/
import Derived.Test.YtgaeoglhammjiaaRef12a
namespace Go.Proofs.Ytgaeoglhammjiaa
open Go.RowKit
set_option maxHeartbeats 2000000
set_option maxRecDepth 100000
set_option linter.unusedVariables false

theorem refLast_any (A : Option Addr) (n c B : Nat) (l : List En) (h : Int) (w : World) (hr : SlR w B 3 A n (enVs l)) (hB : B ≤ w.heap.size) (hn : n ≤ 1000000) :
    Calls Try.prog 25 #[.slice A n c, .int .i64 h] w fun e W' => e = .returned (.tuple #[enA ((lastE l h).getD (0, 0, 0)), .bool (lastE l h).isSome]) ∧ Below w.heap.size w W' := by
  have hb0 : Below w.heap.size w (w.alloc (.cells #[.int .i64 0, .int .i64 0, .int .i64 0] 58)) := (Below.refl _ _).alloc (Nat.le_refl _) _
  have hE := BlkIs.new w 58 #[.int .i64 0, .int .i64 0, .int .i64 0]
  have hr0 := hr.below (hb0.mono hB)
  have hl : l.length = n := by have := hr.len; rw [enVs_length] at this; omega
  obtain ⟨W0, hW0⟩ : ∃ V, w.alloc (.cells #[.int .i64 0, .int .i64 0, .int .i64 0] 58) = V := ⟨_, rfl⟩
  rw [hW0] at hb0 hE hr0
  have Hr := Lib.hid hr0; have HE := Lib.hid hE; have Hb0 := Lib.hid hb0; have Hl := Lib.hid hl; have HW0 := Lib.hid hW0
  have hBs : B ≤ W0.heap.size := Nat.le_trans hB hb0.size
  clear hr hr0 hE hb0 hl hW0
  go_enter Try.func25, Try.ntmps25
  go_wp2_with fail
  (try rw [HW0.out])
  go_loopw [6] (fun i wr => ∃ k : Nat, k ≤ n ∧ i = .int .i64 ((k : Int) - 1) ∧ W0 = wr ∧ Hid (∀ (j : Nat) (x : En), k ≤ j → l[j]? = some x → x.1 ≠ h)) (fun i _ => (intOf i + 1).toNat)
  case atStart => exact ⟨n, Nat.le_refl _, rfl, rfl, Lib.hid fun j x hj hx => by have := (List.getElem?_eq_some_iff.1 hx).1; have := Hl.out; omega⟩
  case round =>
    obtain ⟨k, hk, rfl, rfl, HI⟩ := hrel
    have c0 := HE.out.cell 0; have c1 := HE.out.cell 1; have c2 := HE.out.cell 2
    have f0 := HE.out.free 0; have f1 := HE.out.free 1; have f2 := HE.out.free 2
    by_cases hlt : 0 < k
    · obtain ⟨m, rfl⟩ : ∃ m, k = m + 1 := ⟨k - 1, by omega⟩
      have e1 : ((m + 1 : Nat) : Int) - 1 = (m : Int) := by omega
      rw [e1]
      obtain ⟨ad, ⟨p0, p1, p2⟩, rfl, had, hp, hc⟩ := Hr.out.en (k := m) (by omega)
      obtain ⟨a0, a1, a2⟩ := hc
      dsimp only at a0 a1 a2
      have hm0 : 0 ≤ (m : Int) := by omega
      have hm1 : (m : Int) < (n : Int) := by omega
      have Hp := Lib.hid hp
      clear hlt e1 hp
      by_cases hh : p0 = h
      · have d1 : (p0 == h) = true := by simpa using hh
        have hla := last_hit Hp.out hh (fun i hi x hx => HI.out i x (by omega) hx)
        have Hla := Lib.hid hla
        clear hh hla
        have hE3 := ((HE.out.put 0 (.int .i64 p0)).put 1 (.int .i64 p1)).put 2 (.int .i64 p2)
        have hB3 := ((Hb0.out.setCell (p := ⟨w.heap.size, 0, none⟩) (Nat.le_refl _) (.int .i64 p0)).setCell (p := ⟨w.heap.size, 1, none⟩) (Nat.le_refl _) (.int .i64 p1)).setCell (p := ⟨w.heap.size, 2, none⟩) (Nat.le_refl _) (.int .i64 p2)
        have HE3 := Lib.hid hE3; have HB3 := Lib.hid hB3
        clear hE3 hB3
        go_wp2_with fail
        have hE3 := HE3.out; have hB3 := HB3.out
        generalize ((W0.setCell ⟨w.heap.size, 0, none⟩ (.int .i64 p0)).setCell ⟨w.heap.size, 1, none⟩ (.int .i64 p1)).setCell ⟨w.heap.size, 2, none⟩ (.int .i64 p2) = V at hE3 hB3 ⊢
        have q0 := hE3.cell 0
        have q1 := hE3.cell 1
        have q2 := hE3.cell 2
        simp at q0 q1 q2
        refine bodyPost_ret (v := .tuple #[.agg #[.int .i64 p0, .int .i64 p1, .int .i64 p2], .bool true]) (by simp [results, Try.f25, go_sem, q0, q1, q2]) rfl ?_
        rw [Hla.out]
        exact ⟨rfl, hB3⟩
      · have d1 : (p0 == h) = false := by simpa using hh
        have Hh := Lib.hid hh
        clear hh
        go_wp2_with fail
        go_roundw
        case rel => exact ⟨m, by omega, rfl, by trivial, Lib.hid fun j x hj hx => by
            by_cases hjm : j = m
            · subst hjm; rw [Hp.out] at hx; injection hx with hx; rw [← hx]; exact Hh.out
            · exact HI.out j x (by omega) hx⟩
        case measure => simp [intOf] <;> omega
    · obtain rfl : k = 0 := by omega
      have hla := last_none (es := l) (h := h) (fun x hx => by
        obtain ⟨j, hj⟩ := List.getElem?_of_mem hx
        exact HI.out j x (Nat.zero_le _) hj)
      have Hla := Lib.hid hla
      clear hla
      have hE3 := ((HE.out.put 0 (.int .i64 0)).put 1 (.int .i64 0)).put 2 (.int .i64 0)
      have hB3 := ((Hb0.out.setCell (p := ⟨w.heap.size, 0, none⟩) (Nat.le_refl _) (.int .i64 0)).setCell (p := ⟨w.heap.size, 1, none⟩) (Nat.le_refl _) (.int .i64 0)).setCell (p := ⟨w.heap.size, 2, none⟩) (Nat.le_refl _) (.int .i64 0)
      have HE3 := Lib.hid hE3; have HB3 := Lib.hid hB3
      clear hE3 hB3
      go_wp2_with fail
      have hE3 := HE3.out; have hB3 := HB3.out
      generalize ((W0.setCell ⟨w.heap.size, 0, none⟩ (.int .i64 0)).setCell ⟨w.heap.size, 1, none⟩ (.int .i64 0)).setCell ⟨w.heap.size, 2, none⟩ (.int .i64 0) = V at hE3 hB3 ⊢
      have q0 := hE3.cell 0
      have q1 := hE3.cell 1
      have q2 := hE3.cell 2
      simp at q0 q1 q2
      refine bodyPost_ret (v := .tuple #[.agg #[.int .i64 0, .int .i64 0, .int .i64 0], .bool false]) (by simp [results, Try.f25, go_sem, q0, q1, q2]) rfl ?_
      rw [Hla.out]
      exact ⟨rfl, hB3⟩
end Go.Proofs.Ytgaeoglhammjiaa
