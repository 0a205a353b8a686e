/- chapter 14: Flush. -/
import Derived.Test.YtfjilngofdahgaaIxPut
import Derived.Test.YtfjilngofdahgaaIx4
import Derived.BigRegion
import Derived.RegionTactic
namespace Go.Proofs.Ytfjilngofdahgaa
open Go.RowKit
set_option maxHeartbeats 4000000
set_option maxRecDepth 100000
set_option linter.unusedVariables false

/-! ### plain -/
def headX (r : List Lv) (t : Tb) : List Lv := match r with | [] => [[t]] | l :: r' => (l ++ [t]) :: r'
theorem carry_head (most : Int) (hm : 2 ≤ most) (r : List Lv) (t : Tb) : carryX most (headX r t) none = carryX most r (some t) := by
  cases r with
  | nil =>
    unfold headX
    dsimp only
    unfold carryX
    rw [if_neg (by simp; omega)]
    simp [carryX]
  | cons l r =>
    unfold headX
    dsimp only
    unfold carryX
    simp only [Option.toList_none, List.append_nil, Option.toList_some]
    first | done | rfl
theorem modify_in {α : Type} (l : List α) {k : Nat} (hk : k < l.length) (f : α → α) : l.modify k f = l.set k (f l[k]) := by
  apply List.ext_getElem?
  intro i
  rw [List.getElem?_modify, List.getElem?_set]
  by_cases hi : k = i
  · subst hi; simp [hk]
  · simp [hi]
theorem put_take {lv : List Lv} {k : Nat} {t : Tb} (hk : k < lv.length) : (putX (lv.set k []) (k + 1) t).take (k + 1) = lv.take k ++ [[]] ∧ (putX (lv.set k []) (k + 1) t).drop (k + 1) = headX (lv.drop (k + 1)) t := by
  have h1 : (lv.set k []).take (k + 1) = lv.take k ++ [[]] := by
    rw [List.take_set, List.take_succ_eq_append_getElem hk, List.set_append_right _ _ (by rw [List.length_take]; omega)]
    rw [List.length_take, Nat.min_eq_left (by omega), Nat.sub_self]
    rfl
  have h2 : (lv.set k []).drop (k + 1) = lv.drop (k + 1) := by rw [List.drop_set_of_lt (by omega)]
  unfold putX
  rw [List.length_set]
  split
  · next h =>
    have hlt : k + 1 < (lv.set k []).length := by simpa using h
    have e := modify_in (lv.set k []) hlt (· ++ [t])
    rw [e]
    refine ⟨by rw [List.take_set_of_le (Nat.le_refl _), h1], ?_⟩
    rw [List.drop_set, if_neg (by omega), Nat.sub_self, h2]
    have h3 : lv.drop (k + 1) = lv[k + 1] :: lv.drop (k + 2) := List.drop_eq_getElem_cons h
    have h4 : (lv.set k [])[k + 1] = lv[k + 1] := List.getElem_set_ne (by omega) _
    rw [h4, h3, List.set_cons_zero]
    rfl
  · next h =>
    have hl : (lv.set k []).length = k + 1 := by rw [List.length_set]; omega
    refine ⟨by rw [List.take_append_of_le_length (by omega), h1], ?_⟩
    rw [List.drop_append_of_le_length (by omega), h2, List.drop_of_length_le (by omega)]
    rfl
theorem carry_step (most : Int) (hm : 2 ≤ most) {lv : List Lv} {k : Nat} {l : Lv} (hl : lv[k]? = some l) (hf : most ≤ (l.length : Int)) :
    lv.take k ++ carryX most (lv.drop k) none = (putX (lv.set k []) (k + 1) (joinX l)).take (k + 1) ++ carryX most ((putX (lv.set k []) (k + 1) (joinX l)).drop (k + 1)) none := by
  obtain ⟨hk, hx⟩ := List.getElem?_eq_some_iff.1 hl
  obtain ⟨h1, h2⟩ := put_take (t := joinX l) hk
  rw [h1, h2, carry_head most hm, List.drop_eq_getElem_cons hk, hx]
  conv => lhs; unfold carryX
  simp only [Option.toList_none, List.append_nil]
  rw [if_pos hf]
  simp
theorem carry_skip (most : Int) {lv : List Lv} {k : Nat} {l : Lv} (hl : lv[k]? = some l) (hf : ¬ most ≤ (l.length : Int)) :
    lv.take k ++ carryX most (lv.drop k) none = lv.take (k + 1) ++ carryX most (lv.drop (k + 1)) none := by
  obtain ⟨hk, hx⟩ := List.getElem?_eq_some_iff.1 hl
  rw [List.drop_eq_getElem_cons hk, hx, List.take_succ_eq_append_getElem hk, hx]
  conv => lhs; unfold carryX
  simp only [Option.toList_none, List.append_nil]
  rw [if_neg hf]
  simp
theorem set_w {lv : List Lv} {k : Nat} {l : Lv} (hl : lv[k]? = some l) : wLs (lv.set k []) + wL l = wLs lv := by
  induction lv generalizing k with
  | nil => simp at hl
  | cons a r ih =>
    cases k with
    | zero =>
      have : a = l := by simpa using hl
      subst this
      rw [List.set_cons_zero, wLs_cons, wLs_cons]
      have h0 : wL [] = 0 := rfl
      omega
    | succ k =>
      have := ih (k := k) (by simpa using hl)
      rw [List.set_cons_succ, wLs_cons, wLs_cons]
      omega
theorem put_full (most : Int) (hm : 2 ≤ most) {lv : List Lv} {k : Nat} {l : Lv} (hl : lv[k]? = some l) (hf : most ≤ (l.length : Int)) : wLs (putX (lv.set k []) (k + 1) (joinX l)) ≤ wLs lv := by
  have h1 := put_w (lv.set k []) (k + 1) (joinX l)
  have h2 := set_w hl
  have h3 := join_few l
  omega
/-! ### what the levels' lengths are, by the memory -/
def lens (g : Nat) (w : World) : List Nat := match w.cell? ⟨g, 3, none⟩ with
  | some (.slice (some a) n _) => (List.range n).map fun i => match w.cell? (a.add i) with | some (.slice _ m _) => m | _ => 0
  | _ => []
theorem lens_at {w : World} {S : Nat → Prop} {g T : Nat} {room most : Int} {mem : Tb} {lv : List Lv} {r : Option Nat} {v : Value} {vs : List Value} (h : IxAt w S g room most (mem, lv) T r v vs) : lens g w = lv.map List.length := by
  obtain ⟨A, c, rfl, _⟩ := own_slice h.row
  have k3 := h.blk.cell 3
  simp at k3
  have hvl : vs.length = lv.length := by have := h.row.1; simpa using this
  unfold lens
  rw [k3]
  cases A with
  | none =>
    have : lv.length = 0 := by
      rcases h.row.2 with ⟨_, h0⟩ | ⟨_, _, _, hv, _⟩
      · exact h0
      · simp at hv
    rw [List.eq_nil_of_length_eq_zero this]; rfl
  | some a =>
    dsimp only
    apply List.ext_getElem?
    intro i
    rw [List.getElem?_map, List.getElem?_map]
    rcases Nat.lt_or_ge i lv.length with hi | hi
    · obtain ⟨ad, vk, hA, _, hvk, hcv⟩ := (SlR.own h.row).get hi
      injection hA with hA
      subst hA
      obtain ⟨⟨us, hou, _⟩, _⟩ := h.lev i vk _ hvk (List.getElem?_eq_getElem hi)
      obtain ⟨A', c', rfl, _⟩ := own_slice hou
      rw [List.getElem?_range hi, List.getElem?_eq_getElem hi]
      simp only [Option.map_some, hcv]
    · rw [List.getElem?_eq_none (by simpa using hi), List.getElem?_eq_none hi]
      rfl
/-! ### a new tab -/
theorem IxAt.newMem {w : World} {S : Nat → Prop} {g T T' : Nat} {room most : Int} {mem : Tb} {lv : List Lv} {r : Option Nat} {v : Value} {vs : List Value} (h : IxAt w S g room most (mem, lv) T r v vs) (ht : TabIs w 0 T' none []) (hT : ¬ S T') :
    IxAt (w.setCell ⟨g, 2, none⟩ (.pointer (some ⟨T', 0, none⟩))) (fun b => S b ∨ b = T') g room most ([], lv) T' none v vs ∧ Chg S w (w.setCell ⟨g, 2, none⟩ (.pointer (some ⟨T', 0, none⟩))) := by
  have hc : Chg (fun b => b = g) w (w.setCell ⟨g, 2, none⟩ (.pointer (some ⟨T', 0, none⟩))) := (Chg.refl (fun b => b = g) w).set (a := ⟨g, 2, none⟩) (fun _ => rfl) _
  have hC : ∀ b, b = g → (∃ t cs, BlkIs w b t cs ∧ 27 ≠ t) ∨ (∃ y e c n xs, w.ownsRow 0 e c y n xs ∧ 27 ≠ e ∧ y.ownBlock = some b) := fun b hb => by
    subst hb; exact .inl ⟨_, _, h.blk, by decide⟩
  refine ⟨⟨h.blk.put 2 _, ht.chg hc (fun e => hT (by rw [e]; exact h.sg)) (fun b hb => by cases hb), own_chg h.row hc (fun b hb e => h.dvg (by rw [hb, e])), fun i v' l h1 h2 => ?_, h.two, .inl h.sg, .inr rfl, fun b hb => (by cases hb), fun b hb => .inl (h.sv b hb), fun b hb => ?_⟩, hc.more (fun k _ hk => by rw [hk]; exact h.sg)⟩
  · obtain ⟨k1, k2⟩ := h.lev i v' l h1 h2
    obtain ⟨us, ho, hu⟩ := (k1.keep hc (fun b hb e => k1.dblk h.blk (by decide) (by rw [hb, e])) hC)
    exact ⟨⟨us, ho, fun j u t h3 h4 => ⟨(hu j u t h3 h4).1, fun b hb => ⟨.inl ((hu j u t h3 h4).2 b hb).1, by simp⟩⟩⟩, fun b hb => .inl (k2 b hb)⟩
  · have hsz := hc.size
    rcases hb with hb | rfl
    · exact Nat.lt_of_lt_of_le (h.lt b hb) hsz
    · obtain ⟨vt, k1, _⟩ := ht
      exact Nat.lt_of_lt_of_le k1.lt hsz
end Go.Proofs.Ytfjilngofdahgaa
