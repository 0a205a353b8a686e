/- chapter 20: what is done, in memory; are steps few and short? -/
import Derived.Test.YtadhboioaacaeaaPkBook
import Derived.Test.YtadhboioaacaeaaLaw20
namespace Go.Proofs.Ytadhboioaacaeaa
open Go.RowKit
set_option maxHeartbeats 2000000
set_option maxRecDepth 100000
set_option linter.unusedVariables false

/-- one thing that is done: its kind, two numbers, its packets and where they lie -/
structure OpS where
  kind : Int
  a : Int
  b : Int
  A : Option Addr
  n : Nat
  c : Nat
  ps : List Pk
def opC (o : OpS) : List Value := [.int .i64 o.kind, .int .i64 o.a, .int .i64 o.b, .slice o.A o.n o.c]
def opVs (l : List OpS) : List Value := l.flatMap opC
theorem opVs_length (l : List OpS) : (opVs l).length = l.length * 4 := by
  induction l with
  | nil => rfl
  | cons o l ih => simp only [opVs, List.flatMap_cons, List.length_append, List.length_cons] at ih ⊢; rw [ih]; simp [opC]; omega
theorem opVs_get (l : List OpS) (k j : Nat) (o : OpS) (h : l[k]? = some o) (hj : j < 4) : (opVs l)[k * 4 + j]? = (opC o)[j]? := by
  induction l generalizing k with
  | nil => simp at h
  | cons d l ih =>
    cases k with
    | zero =>
      obtain rfl : d = o := by simpa using h
      simp only [opVs, List.flatMap_cons, Nat.zero_mul, Nat.zero_add]
      rw [List.getElem?_append_left (by simpa [opC] using hj)]
    | succ k =>
      have := ih k (by simpa using h)
      simp only [opVs, List.flatMap_cons]
      rw [List.getElem?_append_right (by simp [opC]; omega), show (k + 1) * 4 + j - (opC d).length = k * 4 + j from by simp [opC]; omega]
      exact this
/-- numbers and packets that a machine can hold, in blocks below B -/
structure OpOk (w : World) (B : Nat) (o : OpS) : Prop where
  sl : SlR w B 3 o.A o.n (pkVs o.ps)
  nc : o.n ≤ o.c
  cm : o.c ≤ 9223372036854775807
  wa : -9223372036854775808 ≤ o.a ∧ o.a ≤ 9223372036854775807
  wb : -9223372036854775808 ≤ o.b ∧ o.b ≤ 9223372036854775807
  pk : ∀ p ∈ o.ps, PkOk p ∧ p.2.2.size ≤ 9223372036854775807
theorem OpOk.len {w : World} {B : Nat} {o : OpS} (h : OpOk w B o) : o.ps.length = o.n := by have := h.sl.len; rw [pkVs_length] at this; omega
theorem OpOk.below {w w' : World} {B : Nat} {o : OpS} (h : OpOk w B o) (hb : Below B w w') : OpOk w' B o := ⟨h.sl.below hb, h.nc, h.cm, h.wa, h.wb, h.pk⟩

def LightPost (l : List OpS) (w : World) (e : Ending) (w' : World) : Prop := ∃ b : Bool, e = .returned (.bool b) ∧ (b = true → l.length ≤ 80 ∧ ∀ o ∈ l, o.n ≤ 20000) ∧ Below w.heap.size w w'

theorem room1_bd (left size : Int) (h : left ≤ 20000) (hs : 0 ≤ size) : room1 left size ≤ 20000 ∧ -1 ≤ room1 left size ∧ (0 ≤ room1 left size → size ≤ 20000 ∧ 0 ≤ left) := by
  unfold room1
  split <;> omega

theorem light_any (n c B : Nat) (A : Option Addr) (l : List OpS) (w : World) (ha : SlR w B 4 A n (opVs l)) (hB : B ≤ w.heap.size) (hok : ∀ o ∈ l, OpOk w B o) (hn : n ≤ 9223372036854775807) :
    Calls Try.prog 16 #[.slice A n c] w (LightPost l w) := by
  have hl : l.length = n := by have := ha.len; rw [opVs_length] at this; omega
  have Ha := Lib.hid ha; have Hok := Lib.hid hok; have Hl := Lib.hid hl
  clear ha hok hl
  go_enter Try.func16, Try.ntmps16
  go_wp2_with fail
  go_loopw [3, 4] (fun r i wr => ∃ (k : Nat) (left : Int), k ≤ n ∧ k ≤ 200 ∧ i = .int .i64 k ∧ r = .int .i64 left ∧ left ≤ 20000 ∧ -1 ≤ left ∧ Hid (0 ≤ left → ∀ i o, i < k → l[i]? = some o → o.n ≤ 20000) ∧ Hid (Below w.heap.size w wr)) (fun _ i _ => n - (intOf i).toNat)
  case atStart => exact ⟨0, 20000, Nat.zero_le _, Nat.zero_le _, rfl, rfl, by omega, by omega, Lib.hid (fun _ i o h => absurd h (Nat.not_lt_zero _)), Lib.hid (Below.refl _ _)⟩
  case round =>
    obtain ⟨k, left, hk, hk2, rfl, rfl, hle, hge, Hall, Hb⟩ := hrel
    by_cases hlt : k < n ∧ k < 200 ∧ 0 ≤ left
    · obtain ⟨hlt, hlt2, hl0⟩ := hlt
      obtain ⟨o, ho⟩ : ∃ o, l[k]? = some o := ⟨_, List.getElem?_eq_getElem (by rw [Hl.out]; exact hlt)⟩
      have hoo := Hok.out o (List.mem_of_getElem? ho)
      obtain ⟨ad, rfl, had, hcell⟩ := (Ha.out.below (Hb.out.mono hB)).cells (by omega)
      have k3 : wr.cell? (ad.add (k * 4 + 3)) = some (.slice o.A o.n o.c) := hcell (k * 4 + 3) _ (opVs_get l k 3 _ ho (by omega))
      rw [← add_nextN _ _ _ (by omega)] at k3
      have q0 : (0 : Int) ≤ (k : Int) := by omega
      have q1 : (k : Int) < (n : Int) := by omega
      have q2 : (k : Int) < 200 := by omega
      have hon : o.n ≤ 9223372036854775807 := Nat.le_trans hoo.nc hoo.cm
      have hrm := room1_bd left (o.n : Int) hle (by omega)
      have Hoo := Lib.hid hoo; have Ho := Lib.hid ho
      have hadw : ad.block < wr.heap.size := Nat.lt_of_lt_of_le had (Nat.le_trans hB Hb.out.size)
      clear hoo ho hcell
      go_wp2_with fail
      refine (room_any left o.n wr.heap.size 0 _ (by simp) ⟨by omega, by omega⟩ ⟨by omega, by omega⟩).mono ?_
      rintro e w1 ⟨rfl, rfl⟩
      generalize room1 left (o.n : Int) = rm at hrm
      obtain ⟨hr1, hr2, hr3⟩ := hrm
      have HR3 := Lib.hid hr3
      clear hr3
      obtain ⟨X, hX⟩ : ∃ X, X = wr.alloc (.cells #[.int .i64 (o.n : Int)] 3) := ⟨_, rfl⟩
      have hbX : Below w.heap.size w X := by rw [hX]; exact below_new Hb.out (Nat.le_refl _) _
      go_wp2_with fail
      rw [← hX]
      have HbX := Lib.hid hbX
      clear hX hbX k3
      go_loopw [3, 5] (fun r i wr => ∃ (j : Nat) (left : Int), j ≤ o.n ∧ i = .int .i64 j ∧ r = .int .i64 left ∧ left ≤ 20000 ∧ -1 ≤ left ∧ Hid (0 ≤ left → 0 ≤ rm) ∧ Hid (Below w.heap.size w wr)) (fun _ i _ => o.n - (intOf i).toNat)
      case atStart => exact ⟨0, rm, Nat.zero_le _, rfl, rfl, hr1, hr2, Lib.hid (fun h => h), HbX⟩
      case round =>
        obtain ⟨j, left2, hj, rfl, rfl, hle2, hge2, H0, Hb2⟩ := hrel
        obtain ⟨ad2, hA2, had2, hcell2⟩ : ∃ ad2 : Addr, some ad = some ad2 ∧ ad2.block < B ∧ wr.cell? (ad2.add (k * 4 + 3)) = some (.slice o.A o.n o.c) := by
          obtain ⟨ad2, h1, h2, h3⟩ := (Ha.out.below (Hb2.out.mono hB)).cells (by omega)
          exact ⟨ad2, h1, h2, h3 (k * 4 + 3) _ (opVs_get l k 3 _ Ho.out (by omega))⟩
        injection hA2 with hA2
        subst hA2
        rw [← add_nextN _ _ _ (by omega)] at hcell2
        by_cases hlt3 : j < o.n ∧ 0 ≤ left2
        · obtain ⟨hlt3, hl2⟩ := hlt3
          obtain ⟨p, hp⟩ : ∃ p, o.ps[j]? = some p := ⟨_, List.getElem?_eq_getElem (by rw [Hoo.out.len]; exact hlt3)⟩
          obtain ⟨ad3, hA3, had3, hcell3⟩ := (Hoo.out.sl.below (Hb2.out.mono hB)).cells (by omega)
          have e2 : wr.cell? (ad3.add (j * 3 + 2)) = some (.string p.2.2) := hcell3 (j * 3 + 2) _ (pkVs_get o.ps j 2 _ hp (by omega))
          rw [← add_nextN _ _ _ (by omega)] at e2
          rw [hA3] at hcell2
          have hps := (Hoo.out.pk p (List.mem_of_getElem? hp)).2
          have j0 : (0 : Int) ≤ (j : Int) := by omega
          have j1 : (j : Int) < (o.n : Int) := by omega
          have hrm2 := room1_bd left2 (p.2.2.size : Int) hle2 (by omega)
          generalize hsz : p.2.2 = str at e2 hps hrm2
          clear hsz hp hcell3 hA3
          go_wp2_with fail
          refine (room_any left2 str.size wr.heap.size 0 _ (by simp) ⟨by omega, by omega⟩ ⟨by omega, by omega⟩).mono ?_
          rintro e w2 ⟨rfl, rfl⟩
          generalize room1 left2 (str.size : Int) = rm2 at hrm2
          obtain ⟨hr4, hr5, hr6⟩ := hrm2
          have HR6 := Lib.hid hr6
          clear hr6
          go_wp2_with fail
          go_roundw
          case rel => exact ⟨j + 1, rm2, by omega, by go_num, rfl, hr4, hr5, Lib.hid (fun h => H0.out (HR6.out h).2), Lib.hid (below_new Hb2.out (Nat.le_refl _) _)⟩
          case measure => simp [intOf] <;> omega
        · have hc3 : (o.n : Int) ≤ (j : Int) ∨ (j : Int) < (o.n : Int) ∧ left2 < 0 := by omega
          have hall2 : Hid (0 ≤ left2 → ∀ i o, i < k + 1 → l[i]? = some o → o.n ≤ 20000) := Lib.hid (fun h i o' hi ho' => by
            have h1 := HR3.out (H0.out h)
            by_cases hik : i < k
            · exact Hall.out h1.2 i o' hik ho'
            · obtain rfl : i = k := by omega
              rw [Ho.out] at ho'
              injection ho' with ho'
              subst ho'
              omega)
          clear hlt3
          rcases hc3 with hc3 | ⟨hc3, hc4⟩
          all_goals
            go_wp2_with fail
            go_roundw
            case rel => exact ⟨k + 1, left2, by omega, by omega, by go_num, rfl, hle2, hge2, hall2, Hb2⟩
            case measure => simp [intOf] <;> omega
    · have hc : (n : Int) ≤ (k : Int) ∨ ((k : Int) < (n : Int) ∧ (200 : Int) ≤ (k : Int)) ∨ ((k : Int) < (n : Int) ∧ (k : Int) < 200 ∧ left < 0) := by omega
      have hfin : ∀ b : Bool, b = (decide (n ≤ 80) && decide (0 ≤ left)) → LightPost l w (.returned (.bool b)) wr := fun b hb => ⟨b, rfl, fun h => by
        rw [hb] at h
        simp at h
        have hkn : k = n := by omega
        refine ⟨by rw [Hl.out]; exact h.1, fun o ho => ?_⟩
        obtain ⟨i, hi, hio⟩ := List.mem_iff_getElem.1 ho
        exact Hall.out h.2 i o (by rw [hkn, ← Hl.out]; exact hi) (by rw [List.getElem?_eq_getElem hi, hio]), Hb.out⟩
      have HF := Lib.hid hfin
      clear hlt hfin
      by_cases h80 : n ≤ 80
      · have d80 : decide (n ≤ 80) = true := by simpa using h80
        have d81 : (n : Int) ≤ 80 := by omega
        by_cases hl0 : 0 ≤ left
        · have dl : decide (0 ≤ left) = true := by simpa using hl0
          have hv := HF.out true (by rw [d80, dl]; rfl)
          have Hv := Lib.hid hv
          clear hv
          rcases hc with hc | ⟨hc, hc2⟩ | ⟨hc, hc2, hc3⟩
          · go_wp2_with fail
            go_ret
            exact Hv.out
          · exfalso; omega
          · exfalso; omega
        · have dl : decide (0 ≤ left) = false := by simpa using hl0
          have hv := HF.out false (by rw [d80, dl]; rfl)
          have Hv := Lib.hid hv
          have hl1 : left < 0 := by omega
          clear hv hl0
          rcases hc with hc | ⟨hc, hc2⟩ | ⟨hc, hc2, hc3⟩
          · go_wp2_with fail
            go_ret
            exact Hv.out
          · exfalso; omega
          · go_wp2_with fail
            go_ret
            exact Hv.out
      · have d80 : decide (n ≤ 80) = false := by simpa using h80
        have d81 : (80 : Int) < (n : Int) := by omega
        have hv := HF.out false (by rw [d80]; rfl)
        have Hv := Lib.hid hv
        clear hv h80
        rcases hc with hc | ⟨hc, hc2⟩ | ⟨hc, hc2, hc3⟩
        all_goals
          go_wp2_with fail
          go_ret
          exact Hv.out
end Go.Proofs.Ytadhboioaacaeaa
