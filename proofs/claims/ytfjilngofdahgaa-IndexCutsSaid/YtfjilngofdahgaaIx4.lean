/- chapter 14: join. -/
import Derived.Test.YtfjilngofdahgaaIx2
namespace Go.Proofs.Ytfjilngofdahgaa
open Go.RowKit
set_option maxHeartbeats 2000000
set_option maxRecDepth 100000
set_option linter.unusedVariables false

theorem joinX_any (S : Nat → Prop) (r : Option Nat) (v : Value) (l : Lv) (w : World) (h : LvIs w S r v l) (hS : ∀ b, S b → b < w.heap.size) (hw : wL l ≤ 900000) :
    Calls Try.prog 39 #[v] w fun e w' => ∃ u, e = .returned u ∧ w'.ownsRow w.heap.size 27 3 u (joinX l).length (enVs (joinX l)) ∧ Below w.heap.size w w' := by
  obtain ⟨us, hou, hus⟩ := h
  obtain ⟨Al, cl, rfl, hnl⟩ := own_slice hou
  have hfl := flat_len l
  have hl9 : l.length ≤ 900000 := by omega
  have KL : Hid (∀ wx, Below w.heap.size w wx → wx.ownsRow 0 32 1 (.slice Al l.length cl) l.length us ∧ ∀ (j : Nat) (u : Value) (t : Tb), us[j]? = some u → l[j]? = some t → wx.ownsRow 0 27 3 u t.length (enVs t)) := Lib.hid (fun wx hb => ⟨own_below hou hb (fun q hq => (hou.lt q hq).2), fun j u t h1 h2 => own_below (hus j u t h1 h2).1 hb (fun q hq => ((hus j u t h1 h2).1.lt q hq).2)⟩)
  have Hus := Lib.hid hus; have HS := Lib.hid hS; have Hfl := Lib.hid hfl
  clear hou hus hS hfl
  go_enter Try.func39, Try.ntmps39
  go_wp2_with fail
  refine (new_any w).mono ?_
  rintro e w1 ⟨rfl, ht, hb⟩
  have T1 := Lib.hid (ht 0); have B1 := Lib.hid hb
  clear ht hb
  go_wp2_with fail
  go_loopw [9] (fun i wr => ∃ (j : Nat) (r2 : Option Nat), j ≤ l.length ∧ i = .int .i64 (j : Int) ∧ TabIs wr 0 w.heap.size r2 (addsE [] (l.take j).flatten) ∧ (∀ b, r2 = some b → w.heap.size ≤ b) ∧ Below w.heap.size w wr) (fun i _ => l.length - (intOf i).toNat)
  case atStart => exact ⟨0, none, Nat.zero_le _, rfl, by simpa [addsE] using T1.out, fun b hb => (by cases hb), B1.out⟩
  case round =>
    obtain ⟨j, r2, hj, rfl, ht, hr2, hb⟩ := hrel
    have hj0 : (0 : Int) ≤ (j : Int) := by omega
    have T4 := Lib.hid ht; have R4 := Lib.hid hr2; have B4 := Lib.hid hb
    clear ht hr2 hb
    by_cases hjl : j < l.length
    · obtain ⟨ad2, u2, rfl, had2, hu2, hcu2⟩ := (SlR.own (KL.out _ B4.out).1).get hjl
      have hj1 : (j : Int) < (l.length : Int) := by omega
      obtain ⟨t, ht⟩ : ∃ t, l[j]? = some t := ⟨_, List.getElem?_eq_getElem hjl⟩
      have hot := (KL.out _ B4.out).2 j u2 t hu2 ht
      have hsb2 := (Hus.out j u2 t hu2 ht).2
      obtain ⟨At, ct, rfl, hnt⟩ := own_slice hot
      have hap : 0 < t.length → ∀ ad, At = some ad → ad.block ≠ w.heap.size ∧ some ad.block ≠ r2 := fun _ ad h => by
        have h1 := HS.out _ (hsb2 ad.block (by rw [h]; rfl)).1
        exact ⟨by omega, fun e => by have := R4.out _ e.symm; omega⟩
      have e2 := congrArg (fun x : Lv => x.flatten.length) (split_at ht)
      simp only [List.flatten_append, List.flatten_cons, List.length_append] at e2
      have hal := (adds_le [] (l.take j).flatten).2
      have hfl := Hfl.out
      simp only [List.length_nil] at hal
      have hadd := add_any 0 w.heap.size r2 _ t At t.length ct wr T4.out (adds_sorted (by simp [SortedE]) _) (SlR.own hot) hap (Nat.zero_le _) (by omega)
      rw [← adds_app, ← take_nextL ht] at hadd
      have Hadd := Lib.hid hadd
      clear hadd hap hot hsb2 e2 hal hfl hu2 ht
      go_wp2_with fail
      refine Hadd.out.mono ?_
      rintro e w5 ⟨rfl, r5, ht5, hst⟩
      have B5 : Hid (Below w.heap.size w w5) := Lib.hid (((Chg.of_below B4.out).trans hst.chg (S := fun _ => False) (fun k hk hT => by
        rcases hT with h | h
        · omega
        · have := R4.out _ h.symm; omega)).below (fun k hk => hk.elim) (Nat.le_refl _))
      have R5 : Hid (∀ b, r5 = some b → w.heap.size ≤ b) := Lib.hid (fun b hb => by
        rcases hst.row with h | ⟨gg, h, h2⟩
        · rw [h] at hb; exact R4.out b hb
        · rw [h] at hb; injection hb with hb; have := B4.out.size; omega)
      have T5 := Lib.hid ht5
      clear ht5 hst
      go_wp2_with fail
      go_roundw
      case rel => exact ⟨j + 1, r5, by omega, by go_num, T5.out, R5.out, B5.out⟩
      case measure => simp [intOf]; omega
    · obtain rfl : j = l.length := by omega
      have djj : decide (l.length < l.length) = false := by simp
      have T6 : Hid (TabIs wr 0 w.heap.size r2 (joinX l)) := Lib.hid (by have := T4.out; rw [List.take_of_length_le (Nat.le_refl _)] at this; exact this)
      have hjf := join_few l
      clear hjl
      go_wp2_with fail
      refine (all_any 0 w.heap.size r2 _ wr T6.out (by omega)).mono ?_
      rintro e w6 ⟨u, rfl, hown, hb⟩
      go_wp2_with fail
      go_ret
      exact ⟨u, rfl, own_mono hown B4.out.size, B4.out.trans (hb.mono B4.out.size)⟩
end Go.Proofs.Ytfjilngofdahgaa
