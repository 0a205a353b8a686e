/- chapter 14: flushing and merging change no answer, plainly. No program here. -/
import Derived.Test.YtfjilngofdahgaaJIndexBytes1

namespace Go.Proofs.Ytfjilngofdahgaa
set_option linter.unusedVariables false

theorem allX_mem (s : Tb × List Lv) (e : En) : e ∈ allX s.1 s.2 ↔ okE e = true ∧ (e ∈ s.1 ∨ e ∈ s.2.flatten.flatten) := by
  unfold allX
  rw [adds_mem, List.mem_append]
  constructor
  · rintro (h | h)
    · cases h
    · exact h
  · exact fun h => .inr h
theorem allX_sorted (s : Tb × List Lv) : SortedE (allX s.1 s.2) := adds_sorted List.Pairwise.nil _
def flT (o : Option Tb) : Tb := match o with | none => [] | some t => t
theorem flat_T (l : Lv) (o : Option Tb) (e : En) : e ∈ (l ++ o.toList).flatten ↔ e ∈ l.flatten ∨ e ∈ flT o := by
  cases o with
  | none => simp [flT]
  | some t => simp [flT]
theorem carry_mem (most : Int) (lv : List Lv) (e : En) (he : okE e = true) : ∀ o : Option Tb, e ∈ (carryX most lv o).flatten.flatten ↔ e ∈ lv.flatten.flatten ∨ e ∈ flT o := by
  induction lv with
  | nil => intro o; cases o with
    | none => simp [carryX, flT]
    | some t => simp [carryX, flT]
  | cons l r ih =>
    intro o
    have hf := flat_T l o e
    have hL : ∀ (a : Lv) (b : List Lv), e ∈ (a :: b).flatten.flatten ↔ e ∈ a.flatten ∨ e ∈ b.flatten.flatten := by intro a b; rw [List.flatten_cons, List.flatten_append, List.mem_append]
    unfold carryX
    split
    · rw [List.flatten_cons, List.nil_append, ih, List.flatten_cons, List.flatten_append, List.mem_append]
      have hj : e ∈ flT (some (joinX (l ++ o.toList))) ↔ e ∈ (l ++ o.toList).flatten := by
        show e ∈ joinX (l ++ o.toList) ↔ _
        unfold joinX
        rw [adds_mem]
        constructor
        · rintro (h | h)
          · cases h
          · exact h.2
        · exact fun h => .inr ⟨he, h⟩
      rw [hj, hf]
      constructor
      · rintro (h | h | h)
        · exact .inl (.inr h)
        · exact .inl (.inl h)
        · exact .inr h
      · rintro ((h | h) | h)
        · exact .inr (.inl h)
        · exact .inl h
        · exact .inr (.inr h)
    · rw [hL, hL, ih, hf]
      have h0 : e ∉ flT none := by simp [flT]
      constructor
      · rintro ((h | h) | h | h)
        · exact .inl (.inl h)
        · exact .inr h
        · exact .inl (.inr h)
        · exact absurd h h0
      · rintro ((h | h) | h)
        · exact .inl (.inl h)
        · exact .inr (.inl h)
        · exact .inl (.inr h)
theorem put0_mem (lv : List Lv) (t : Tb) (e : En) : e ∈ (putX lv 0 t).flatten.flatten ↔ e ∈ lv.flatten.flatten ∨ e ∈ t := by
  cases lv with
  | nil => simp [putX]
  | cons l r =>
    unfold putX
    rw [if_pos (by simp)]
    simp only [List.modify_zero_cons, List.flatten_cons, List.flatten_append, List.mem_append, List.flatten_nil, List.append_nil]
    constructor
    · rintro ((h | h) | h)
      · exact .inl (.inl h)
      · exact .inr h
      · exact .inl (.inr h)
    · rintro ((h | h) | h)
      · exact .inl (.inl h)
      · exact .inr h
      · exact .inl (.inr h)
theorem flush_all (most : Int) (s : Tb × List Lv) : allX (flushX most s).1 (flushX most s).2 = allX s.1 s.2 := by
  unfold flushX
  split
  · rfl
  · refine sorted_ext (allX_sorted _) (allX_sorted s) (fun e => ?_)
    rw [allX_mem, allX_mem]
    refine and_congr_right (fun he => ?_)
    rw [carry_mem most _ e he, put0_mem]
    have h0 : e ∉ flT none := by simp [flT]
    constructor
    · rintro (h | (h | h) | h)
      · cases h
      · exact .inr h
      · exact .inl h
      · exact absurd h h0
    · rintro (h | h)
      · exact .inr (.inl (.inr h))
      · exact .inr (.inl (.inl h))
theorem has_mem (s : Tb × List Lv) (e : En) : hasX s e = true ↔ e ∈ allX s.1 s.2 := by
  unfold hasX
  rw [decide_eq_true_iff]
  unfold findE
  constructor
  · intro hf
    obtain ⟨e', he', hp⟩ := List.mem_map.1 hf
    rw [List.mem_filter, decide_eq_true_iff] at he'
    have he : e' = e := Prod.ext he'.2.1 (Prod.ext he'.2.2 hp)
    rw [← he]
    exact he'.1
  · intro h
    exact List.mem_map.2 ⟨e, by rw [List.mem_filter, decide_eq_true_iff]; exact ⟨h, rfl, rfl⟩, rfl⟩
theorem add_all (room most : Int) (s : Tb × List Lv) (e : En) : allX (addX room most s e).1 (addX room most s e).2 = insE (allX s.1 s.2) e := by
  have hi : allX (insE s.1 e) s.2 = insE (allX s.1 s.2) e := by
    refine sorted_ext (allX_sorted (insE s.1 e, s.2)) (ins_sorted (allX_sorted s) e) (fun y => ?_)
    rw [allX_mem (insE s.1 e, s.2), ins_mem, ins_mem, allX_mem]
    constructor
    · rintro ⟨h1, (h | ⟨h, h2⟩) | h⟩
      · exact .inl ⟨h1, .inl h⟩
      · exact .inr ⟨h, h2⟩
      · exact .inl ⟨h1, .inr h⟩
    · rintro (⟨h1, h | h⟩ | ⟨h, h2⟩)
      · exact ⟨h1, .inl (.inl h)⟩
      · exact ⟨h1, .inr h⟩
      · exact ⟨by rw [h2]; exact h, .inl (.inr ⟨h, h2⟩)⟩
  unfold addX
  split
  · next h =>
    rw [has_mem] at h
    refine sorted_ext (allX_sorted s) (ins_sorted (allX_sorted s) e) (fun y => ?_)
    rw [ins_mem]
    exact ⟨fun hy => .inl hy, fun hy => by rcases hy with hy | ⟨_, rfl⟩; exact hy; exact h⟩
  · split
    · rw [flush_all]; exact hi
    · exact hi
theorem adds_all (room most : Int) (s : Tb × List Lv) (es : List En) : allX (addsX room most s es).1 (addsX room most s es).2 = addsE (allX s.1 s.2) es := by
  induction es generalizing s with
  | nil => rfl
  | cons e es ih =>
    show allX (addsX room most (addX room most s e) es).1 (addsX room most (addX room most s e) es).2 = addsE (insE (allX s.1 s.2) e) es
    rw [ih, add_all]
theorem adds_all0 (room most : Int) (es : List En) : allX (addsX room most ([], []) es).1 (addsX room most ([], []) es).2 = addsE [] es := adds_all room most ([], []) es
theorem merged_all (s : Tb × List Lv) : allX [] [[allX s.1 s.2]] = allX s.1 s.2 := by
  refine sorted_ext (allX_sorted (([], [[allX s.1 s.2]]) : Tb × List Lv)) (allX_sorted s) (fun e => ?_)
  rw [allX_mem (([], [[allX s.1 s.2]]) : Tb × List Lv)]
  have h1 : ([[allX s.1 s.2]] : List Lv).flatten.flatten = allX s.1 s.2 := by simp
  dsimp only
  rw [h1]
  constructor
  · rintro ⟨_, h | h⟩
    · cases h
    · exact h
  · intro h
    exact ⟨((allX_mem s e).1 h).1, .inr h⟩
end Go.Proofs.Ytfjilngofdahgaa
