/- wire: a message laid. -/
import Derived.Test.YtadhboioaacaeaaGreatCWireTellsWireLaw
import Derived.Test.YtadhboioaacaeaaGreatCWireTellsCheck
import Derived.Test.YtadhboioaacaeaaGreatCWireTellsInts
import Derived.Deep.RegionHeld3

namespace Go.Proofs.YtadhboioaacaeaaGreat
open Go.RowKit
set_option maxHeartbeats 2000000
set_option maxRecDepth 100000
set_option linter.unusedVariables false

/-- the four numbers -/
def fourV (t l e c : Int) : List Int := [t, l, e, c]
theorem small_all {t l e c : Int} (h : ∀ j v, j < 4 → (fourV t l e c)[j]? = some v → smallP v) : smallP t ∧ smallP l ∧ smallP e ∧ smallP c :=
  ⟨h 0 t (by decide) rfl, h 1 l (by decide) rfl, h 2 e (by decide) rfl, h 3 c (by decide) rfl⟩
theorem small_none {t l e c : Int} {j : Nat} {v : Int} (hv : (fourV t l e c)[j]? = some v) (h : ¬ smallP v) : ¬ (smallP t ∧ smallP l ∧ smallP e ∧ smallP c) := by
  rintro ⟨a, b, c2, d⟩
  match j with
  | 0 => simp [fourV] at hv; subst hv; exact h a
  | 1 => simp [fourV] at hv; subst hv; exact h b
  | 2 => simp [fourV] at hv; subst hv; exact h c2
  | 3 => simp [fourV] at hv; subst hv; exact h d
  | j + 4 => simp [fourV] at hv

theorem right_any (k t l e c : Int) (ok : Bool) (A : Option Addr) (n cap B : Nat) (es : List ByteArray) (w : World) (hr : SlR w B 1 A n (strVs es)) (hB : B ≤ w.heap.size) (hn : n ≤ 1000000000) (hf : ∀ s ∈ es, s.size ≤ 9223372036854775807) :
    Calls Tryz.prog 23 #[.agg #[.int .i64 k, .int .i64 t, .int .i64 l, .int .i64 e, .int .i64 c, .bool ok, .slice A n cap]] w fun x w' =>
      x = .returned (.bool (decide (WMsg.mk k t l e c ok es).right)) ∧ Below w.heap.size w w' := by
  have hl : es.length = n := by have := hr.len; simpa [strVs] using this
  obtain ⟨rb, hrb⟩ : ∃ rb, decide (WMsg.mk k t l e c ok es).right = rb := ⟨_, rfl⟩
  have Hrb := Lib.hid hrb
  rw [hrb]; clear hrb
  have Hr := Lib.hid ((hr.below ((Below.refl w.heap.size w).alloc (Nat.le_refl _) (.cells #[.int .i64 k, .int .i64 t, .int .i64 l, .int .i64 e, .int .i64 c, .bool ok, .slice A n cap] 24) |>.mono hB)).below (((Below.refl _ _).alloc (Nat.le_refl _) (.cells #[.int .i64 t, .int .i64 l, .int .i64 e, .int .i64 c] 3)) |>.mono (by simp; omega)))
  have hb2 : Below w.heap.size w ((w.alloc (.cells #[.int .i64 k, .int .i64 t, .int .i64 l, .int .i64 e, .int .i64 c, .bool ok, .slice A n cap] 24)).alloc (.cells #[.int .i64 t, .int .i64 l, .int .i64 e, .int .i64 c] 3)) := ((Below.refl _ _).alloc (Nat.le_refl _) _).alloc (by simp) _
  have Hb2 := Lib.hid hb2
  have Hl := Lib.hid hl
  clear hr hb2 hl
  go_enter Tryz.func23, Tryz.ntmps23
  go_wp2_with fail
  obtain ⟨W, hW⟩ : ∃ W, W = (w.alloc (.cells #[.int .i64 k, .int .i64 t, .int .i64 l, .int .i64 e, .int .i64 c, .bool ok, .slice A n cap] 24)).alloc (.cells #[.int .i64 t, .int .i64 l, .int .i64 e, .int .i64 c] 3) := ⟨_, rfl⟩
  have hM : BlkIs W w.heap.size 24 #[.int .i64 k, .int .i64 t, .int .i64 l, .int .i64 e, .int .i64 c, .bool ok, .slice A n cap] := by rw [hW]; exact (BlkIs.new _ _ _).alloc _
  have h4 : SlR W (w.heap.size + 1 + 1) 1 (some ⟨w.heap.size + 1, 0, none⟩) 4 (intVs (fourV t l e c)) := by rw [hW]; exact SlR.new _ (w.heap.size + 1) (by simp) _ #[.int .i64 t, .int .i64 l, .int .i64 e, .int .i64 c] rfl
  have hg0 := hM.cell 0
  have hg6 := hM.cell 6
  simp at hg0 hg6
  rw [← hW] at Hr Hb2 ⊢
  have H4 := Lib.hid h4
  clear hW hM h4
  go_loop [17] (fun i => ∃ m : Nat, m ≤ 4 ∧ i = .int .i64 m ∧ ∀ j v, j < m → (fourV t l e c)[j]? = some v → smallP v) (fun i => 4 - (intOf i).toNat)
  case atStart => exact ⟨0, Nat.zero_le _, rfl, fun j v hj => absurd hj (Nat.not_lt_zero _)⟩
  case round =>
    obtain ⟨m, hm, rfl, hsm⟩ := hrel
    have Hsm := Lib.hid hsm; clear hsm
    by_cases hlt : m < 4
    · obtain ⟨ad, u, hA, _, hu, hcell⟩ := H4.out.get hlt
      obtain rfl : ad = ⟨w.heap.size + 1, 0, none⟩ := by simpa using hA.symm
      obtain ⟨z, hz, rfl⟩ := intVs_get hu
      have Hz := Lib.hid hz
      have hcell : W.cell? ⟨w.heap.size + 1, m, none⟩ = some (.int .i64 z) := by
        cases m with
        | zero => simpa [Addr.add] using hcell
        | succ m => simpa [Addr.add] using hcell
      clear hu hz hA
      by_cases hzs : smallP z
      · have d1 : decide (z < 0) = false := by unfold smallP at hzs; simp; omega
        have d2 : decide ((2147483647 : Int) < z) = false := by unfold smallP at hzs; simp; omega
        have Hzs := Lib.hid hzs; clear hzs
        go_wp2_with fail
        go_round
        case rel =>
          refine ⟨m + 1, by omega, by go_num, fun j v hj hv => ?_⟩
          by_cases hjm : j < m
          · exact Hsm.out j v hjm hv
          · obtain rfl : j = m := by omega
            rw [Hz.out] at hv; cases hv; exact Hzs.out
        case measure => simp [intOf]; omega
      · have hfalse : rb = false := by
          rw [← Hrb.out, decide_eq_false_iff_not]
          rintro ⟨h1, _⟩
          exact small_none Hz.out hzs h1
        have HF := Lib.hid hfalse
        by_cases hneg : z < 0
        · have d1 : decide (z < 0) = true := by simpa using hneg
          clear hzs hfalse hneg
          go_wp2_with fail
          go_ret
          rw [HF.out]; exact ⟨rfl, Hb2.out⟩
        · have d1 : decide (z < 0) = false := by simpa using hneg
          have d2 : decide ((2147483647 : Int) < z) = true := by unfold smallP at hzs; simp; omega
          clear hzs hfalse hneg
          go_wp2_with fail
          go_ret
          rw [HF.out]; exact ⟨rfl, Hb2.out⟩
    · obtain rfl : m = 4 := by omega
      have Hall := Lib.hid (small_all Hsm.out)
      clear Hsm hlt hm
      go_wp2_with fail
      go_loop [31] (fun i => ∃ m : Nat, m ≤ n ∧ i = .int .i64 m ∧ ∀ s ∈ es.take m, s.size ≤ 4000) (fun i => n - (intOf i).toNat)
      case atStart => exact ⟨0, Nat.zero_le _, rfl, fun s hs => by simp at hs⟩
      case round =>
        obtain ⟨m, hm, rfl, hsm⟩ := hrel
        have Hsm := Lib.hid hsm; clear hsm
        by_cases hlt : m < n
        · obtain ⟨ad, u, hA, _, hu, hcell⟩ := Hr.out.get hlt
          subst hA
          obtain ⟨s, hg, rfl⟩ := strVs_get hu
          have hsz : s.size ≤ 9223372036854775807 := hf s (List.mem_of_getElem? hg)
          have Hg := Lib.hid hg; clear hg hu
          by_cases h4k : s.size ≤ 4000
          · have d1 : decide ((4000 : Int) < (s.size : Int)) = false := by simp; omega
            have H4k := Lib.hid h4k; clear h4k
            go_wp2_with fail
            go_round
            case rel =>
              refine ⟨m + 1, by omega, by go_num, fun x hx => ?_⟩
              rw [List.take_add_one, List.mem_append] at hx
              rcases hx with hx | hx
              · exact Hsm.out x hx
              · rw [Hg.out] at hx; simp at hx; rw [hx]; exact H4k.out
            case measure => simp [intOf]; omega
          · have d1 : decide ((4000 : Int) < (s.size : Int)) = true := by simp; omega
            have hfalse : rb = false := by
              rw [← Hrb.out, decide_eq_false_iff_not]
              rintro ⟨_, h1, _⟩
              exact h4k (h1 s (List.mem_of_getElem? Hg.out))
            have HF := Lib.hid hfalse
            clear h4k hfalse
            go_wp2_with fail
            go_ret
            rw [HF.out]; exact ⟨rfl, Hb2.out⟩
        · obtain rfl : m = n := by omega
          have hes : ∀ s ∈ es, s.size ≤ 4000 := fun s hs => Hsm.out s (by rw [List.take_of_length_le (by have := Hl.out; omega)]; exact hs)
          have hrv : rb = (decide (1 ≤ k) && decide (k ≤ 4) && decide ((m : Int) ≤ 4)) := by
            rw [← Hrb.out]
            have hl2 := Hl.out
            rw [show decide ((m : Int) ≤ 4) = decide (es.length ≤ 4) from by rw [hl2]; exact decide_eq_decide.mpr (by omega), ← Bool.decide_and, ← Bool.decide_and]
            refine decide_eq_decide.mpr ⟨fun h => ⟨h.2.2.1, h.2.2.2⟩, fun h => ⟨Hall.out, hes, h.1, h.2⟩⟩
          have Hrv := Lib.hid hrv
          clear hes hrv Hsm
          by_cases k1 : (1 : Int) ≤ k
          · have d1 : decide ((1 : Int) ≤ k) = true := by simpa using k1
            by_cases k2 : k ≤ 4
            · have d2 : decide (k ≤ (4 : Int)) = true := by simpa using k2
              clear k1 k2
              go_wp2_with fail
              go_ret
              rw [Hrv.out, d1, d2]; exact ⟨by simp, Hb2.out⟩
            · have d2 : decide (k ≤ (4 : Int)) = false := by simpa using k2
              clear k1 k2
              go_wp2_with fail
              go_ret
              rw [Hrv.out, d1, d2]; exact ⟨by simp, Hb2.out⟩
          · have d1 : decide ((1 : Int) ≤ k) = false := by simpa using k1
            clear k1
            go_wp2_with fail
            go_ret
            rw [Hrv.out, d1]; exact ⟨by simp, Hb2.out⟩
end Go.Proofs.YtadhboioaacaeaaGreat
