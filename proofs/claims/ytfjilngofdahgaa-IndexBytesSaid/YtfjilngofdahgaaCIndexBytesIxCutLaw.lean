/- chapter 14: cuts, plainly. No program here. -/
import Derived.Test.YtfjilngofdahgaaCIndexBytesIxLevLaw
import Derived.Test.YtfjilngofdahgaaCIndexBytesIxSameLaw

namespace Go.Proofs.Ytfjilngofdahgaa
set_option maxHeartbeats 1000000
set_option linter.unusedVariables false

/-- all stand once, in tables that are in order -/
structure TidyX (s : Tb × List Lv) : Prop where
  srt : SortedE s.1
  tabs : ∀ l ∈ s.2, ∀ t ∈ l, SortedE t
  nd : (s.1 ++ s.2.flatten.flatten).Nodup
  ok : ∀ y ∈ s.1 ++ s.2.flatten.flatten, okE y = true
theorem carry_tidy (most : Int) (lv : List Lv) : ∀ (o : Option Tb), (∀ l ∈ lv, ∀ t ∈ l, SortedE t) → (∀ t, o = some t → SortedE t) → (lv.flatten.flatten ++ flO o).Nodup → (∀ y ∈ lv.flatten.flatten ++ flO o, okE y = true) →
    (∀ l ∈ carryX most lv o, ∀ t ∈ l, SortedE t) ∧ (carryX most lv o).flatten.flatten.Perm (lv.flatten.flatten ++ flO o) := by
  induction lv with
  | nil =>
    intro o _ ho _ _
    cases o with
    | none => exact ⟨by simp [carryX], by simp [carryX, flO]⟩
    | some t => exact ⟨by intro l hl t' ht'; simp [carryX] at hl; subst hl; simp at ht'; rw [ht']; exact ho t rfl, by simp [carryX, flO]⟩
  | cons l r ih =>
    intro o hs ho hnd hok
    have hl' : ∀ t ∈ l ++ o.toList, SortedE t := fun t ht => by
      rcases List.mem_append.1 ht with h | h
      · exact hs l (List.mem_cons_self ..) t h
      · cases o with
        | none => simp at h
        | some t' => simp at h; rw [h]; exact ho t' rfl
    have hp0 : ((l :: r).flatten.flatten ++ flO o).Perm (r.flatten.flatten ++ (l ++ o.toList).flatten) := by
      rw [flat_O, List.flatten_cons, List.flatten_append]
      have := (List.perm_append_comm (l₁ := l.flatten) (l₂ := r.flatten.flatten)).append_right (flO o)
      rw [List.append_assoc, List.append_assoc] at *
      exact this
    unfold carryX
    by_cases hf : most ≤ ((l ++ o.toList).length : Int)
    · rw [if_pos hf]
      have hnd2 := hp0.nodup hnd
      have hok2 : ∀ y ∈ r.flatten.flatten ++ (l ++ o.toList).flatten, okE y = true := fun y hy => hok y (hp0.mem_iff.2 hy)
      have hnl : (l ++ o.toList).flatten.Nodup := (List.nodup_append.1 hnd2).2.1
      have hpj := perm_adds hnl (fun p hp => hok2 p (List.mem_append_right _ hp))
      have hpj2 : (r.flatten.flatten ++ joinX (l ++ o.toList)).Perm (r.flatten.flatten ++ (l ++ o.toList).flatten) := List.Perm.append_left _ hpj
      obtain ⟨k1, k2⟩ := ih (some (joinX (l ++ o.toList))) (fun l' hl => hs l' (List.mem_cons_of_mem _ hl)) (fun t ht => by injection ht with ht; rw [← ht]; exact adds_sorted List.Pairwise.nil _) (hpj2.symm.nodup hnd2) (fun y hy => hok2 y (hpj2.mem_iff.1 hy))
      refine ⟨fun l' hl t ht => ?_, ?_⟩
      · rcases List.mem_cons.1 hl with rfl | hl
        · cases ht
        · exact k1 l' hl t ht
      · rw [List.flatten_cons, List.nil_append]
        exact k2.trans (hpj2.trans hp0.symm)
    · rw [if_neg hf]
      have hnr : (r.flatten.flatten ++ flO none).Nodup := by
        have := (List.nodup_append.1 (hp0.nodup hnd)).1
        simpa [flO] using this
      obtain ⟨k1, k2⟩ := ih none (fun l' hl => hs l' (List.mem_cons_of_mem _ hl)) (fun t ht => by cases ht) hnr (fun y hy => hok y (hp0.mem_iff.2 (List.mem_append_left _ (by simpa [flO] using hy))))
      refine ⟨fun l' hl t ht => ?_, ?_⟩
      · rcases List.mem_cons.1 hl with rfl | hl
        · exact hl' t ht
        · exact k1 l' hl t ht
      · rw [List.flatten_cons, List.flatten_append]
        have k3 : (carryX most r none).flatten.flatten.Perm r.flatten.flatten := by simpa [flO] using k2
        exact (List.Perm.append_left _ k3).trans (List.perm_append_comm.trans hp0.symm)
theorem put0_tidy {lv : List Lv} {t : Tb} (h : ∀ l ∈ lv, ∀ t ∈ l, SortedE t) (ht : SortedE t) : (∀ l ∈ putX lv 0 t, ∀ t ∈ l, SortedE t) ∧ (putX lv 0 t).flatten.flatten.Perm (t ++ lv.flatten.flatten) := by
  rw [put0_head]
  cases lv with
  | nil => exact ⟨by intro l hl t' ht'; simp [headX] at hl; subst hl; simp at ht'; rw [ht']; exact ht, by simp [headX]⟩
  | cons l r =>
    refine ⟨fun l' hl t' ht' => ?_, ?_⟩
    · unfold headX at hl
      rcases List.mem_cons.1 hl with rfl | hl
      · rcases List.mem_append.1 ht' with h1 | h1
        · exact h l (List.mem_cons_self ..) t' h1
        · simp at h1; rw [h1]; exact ht
      · exact h l' (List.mem_cons_of_mem _ hl) t' ht'
    · unfold headX
      simp only [List.flatten_cons, List.flatten_append, List.flatten_nil, List.append_nil]
      rw [← List.append_assoc]
      exact (List.perm_append_comm).append_right _
theorem tidy_flush (most : Int) {s : Tb × List Lv} (h : TidyX s) : TidyX (flushX most s) := by
  unfold flushX
  split
  · exact h
  · obtain ⟨p1, p2⟩ := put0_tidy h.tabs h.srt
    have hn := p2.symm.nodup h.nd
    have hok : ∀ y ∈ (putX s.2 0 s.1).flatten.flatten, okE y = true := fun y hy => h.ok y (p2.mem_iff.1 hy)
    obtain ⟨k1, k2⟩ := carry_tidy most (putX s.2 0 s.1) none p1 (fun t ht => by cases ht) (by simpa [flO] using hn) (by simpa [flO] using hok)
    have k3 : (carryX most (putX s.2 0 s.1) none).flatten.flatten.Perm (putX s.2 0 s.1).flatten.flatten := by simpa [flO] using k2
    exact ⟨List.Pairwise.nil, k1, by rw [List.nil_append]; exact k3.symm.nodup hn, by rw [List.nil_append]; exact fun y hy => hok y (k3.mem_iff.1 hy)⟩
theorem tidy_ins {s : Tb × List Lv} (h : TidyX s) {e : En} (hh : hasX s e = false) : TidyX (insE s.1 e, s.2) := by
  cases hn : newE s.1 e with
  | false =>
    have : insE s.1 e = s.1 := by unfold insE; rw [if_neg (by rw [hn]; simp)]
    rw [this]
    exact h
  | true =>
    have hok : okE e = true := by unfold newE at hn; simp at hn; exact hn.2
    have hni : e ∉ s.1 ++ s.2.flatten.flatten := fun hm => by
      have : hasX s e = true := (has_mem s e).2 ((allX_mem s e).2 ⟨hok, List.mem_append.1 hm⟩)
      rw [hh] at this; cases this
    have hp : (insE s.1 e ++ s.2.flatten.flatten).Perm (e :: (s.1 ++ s.2.flatten.flatten)) := (perm_ins hn).append_right _
    refine ⟨ins_sorted h.srt e, h.tabs, hp.symm.nodup (List.nodup_cons.2 ⟨hni, h.nd⟩), fun y hy => ?_⟩
    rcases List.mem_cons.1 (hp.mem_iff.1 hy) with rfl | hy
    · exact hok
    · exact h.ok y hy
theorem tidy_add (room most : Int) {s : Tb × List Lv} (h : TidyX s) (e : En) : TidyX (addX room most s e) := by
  unfold addX
  split
  · exact h
  · next hh =>
    have ht := tidy_ins h (e := e) (by simpa using hh)
    split
    · exact tidy_flush most ht
    · exact ht
theorem tidy_adds (room most : Int) {s : Tb × List Lv} (h : TidyX s) (es : List En) : TidyX (addsX room most s es) := by
  induction es generalizing s with
  | nil => exact h
  | cons e es ih => exact ih (tidy_add room most h e)
theorem tidy_none : TidyX ([], []) := ⟨List.Pairwise.nil, fun l hl => (by cases hl), (by simp), (by simp)⟩
theorem tidy_perm {s : Tb × List Lv} (h : TidyX s) : (allX s.1 s.2).Perm (s.1 ++ s.2.flatten.flatten) := perm_adds h.nd h.ok
/-! ### the cut -/
def cutL (p : Int) (l : Lv) : Lv := (l.map fun t => cutE (addsE [] t) p).filter fun t => decide (0 < t.length)
def cutI (p : Int) (s : Tb × List Lv) : Tb × List Lv := (cutE s.1 p, s.2.map (cutL p))
/-- how many a cut takes from a level -/
def goneL (p : Int) (l : Lv) : Nat := (l.map fun t => (addsE [] t).length - (cutE (addsE [] t) p).length).sum
def goneI (p : Int) (s : Tb × List Lv) : Nat := (s.1.length - (cutE s.1 p).length) + (s.2.map (goneL p)).sum
theorem adds_self {t : Tb} (hs : SortedE t) (hok : ∀ y ∈ t, okE y = true) : addsE [] t = t := by
  refine sorted_ext (adds_sorted List.Pairwise.nil t) hs (fun y => ?_)
  rw [adds_mem]
  exact ⟨fun h => by rcases h with h | h; cases h; exact h.2, fun h => .inr ⟨hok y h, h⟩⟩
theorem cutE_flat (p : Int) (l : List Tb) : (l.map fun t => cutE t p).flatten = cutE l.flatten p := by
  induction l with
  | nil => rfl
  | cons t l ih => simp only [List.map_cons, List.flatten_cons, ih]; unfold cutE; rw [List.filter_append]
theorem flat_drop (l : List Tb) : (l.filter fun t => decide (0 < t.length)).flatten = l.flatten := by
  induction l with
  | nil => rfl
  | cons t l ih =>
    cases t with
    | nil => rw [List.filter_cons_of_neg (by simp), ih]; simp
    | cons a t => rw [List.filter_cons_of_pos (by simp), List.flatten_cons, List.flatten_cons, ih]
theorem cutL_flat (p : Int) {l : Lv} (hs : ∀ t ∈ l, SortedE t) (hok : ∀ y ∈ l.flatten, okE y = true) : (cutL p l).flatten = cutE l.flatten p ∧ goneL p l + (cutE l.flatten p).length = l.flatten.length := by
  have he : ∀ t ∈ l, addsE [] t = t := fun t ht => adds_self (hs t ht) (fun y hy => hok y (List.mem_flatten.2 ⟨t, ht, hy⟩))
  constructor
  · unfold cutL
    rw [flat_drop, ← cutE_flat]
    congr 1
    exact List.map_congr_left (fun t ht => by rw [he t ht])
  · unfold goneL
    rw [List.map_congr_left (g := fun t => t.length - (cutE t p).length) (fun t ht => by rw [he t ht]), ← cutE_flat]
    clear he hs hok
    induction l with
    | nil => rfl
    | cons t l ih =>
      have := List.length_filter_le (fun e : En => decide (e.2.2 < p)) t
      simp only [List.map_cons, List.sum_cons, List.flatten_cons, List.length_append]
      unfold cutE at *
      omega
theorem cutLs_flat (p : Int) {lv : List Lv} (hs : ∀ l ∈ lv, ∀ t ∈ l, SortedE t) (hok : ∀ y ∈ lv.flatten.flatten, okE y = true) : (lv.map (cutL p)).flatten.flatten = cutE lv.flatten.flatten p ∧ (lv.map (goneL p)).sum + (cutE lv.flatten.flatten p).length = lv.flatten.flatten.length := by
  induction lv with
  | nil => exact ⟨rfl, rfl⟩
  | cons l r ih =>
    have hf : (l :: r).flatten.flatten = l.flatten ++ r.flatten.flatten := by rw [List.flatten_cons, List.flatten_append]
    rw [hf] at hok ⊢
    obtain ⟨a1, a2⟩ := cutL_flat p (hs l (List.mem_cons_self ..)) (fun y hy => hok y (List.mem_append_left _ hy))
    obtain ⟨b1, b2⟩ := ih (fun l' hl => hs l' (List.mem_cons_of_mem _ hl)) (fun y hy => hok y (List.mem_append_right _ hy))
    have hc : cutE (l.flatten ++ r.flatten.flatten) p = cutE l.flatten p ++ cutE r.flatten.flatten p := by unfold cutE; rw [List.filter_append]
    rw [hc]
    refine ⟨by rw [List.map_cons, List.flatten_cons, List.flatten_append, a1, b1], ?_⟩
    simp only [List.map_cons, List.sum_cons, List.length_append]
    omega
theorem cutI_all {s : Tb × List Lv} (h : TidyX s) (p : Int) : allX (cutI p s).1 (cutI p s).2 = cutE (allX s.1 s.2) p ∧ goneI p s + (cutE (allX s.1 s.2) p).length = (allX s.1 s.2).length := by
  obtain ⟨a1, a2⟩ := cutLs_flat p h.tabs (fun y hy => h.ok y (List.mem_append_right _ hy))
  have hp := tidy_perm h
  constructor
  · refine sorted_ext (allX_sorted (cutI p s)) (cut_sorted (allX_sorted s) p) (fun y => ?_)
    rw [allX_mem]
    unfold cutI
    dsimp only
    rw [a1]
    unfold cutE
    simp only [List.mem_filter, allX_mem]
    constructor
    · rintro ⟨h1, ⟨h2, h3⟩ | ⟨h2, h3⟩⟩
      · exact ⟨⟨h1, .inl h2⟩, h3⟩
      · exact ⟨⟨h1, .inr h2⟩, h3⟩
    · rintro ⟨⟨h1, h2 | h2⟩, h3⟩
      · exact ⟨h1, .inl ⟨h2, h3⟩⟩
      · exact ⟨h1, .inr ⟨h2, h3⟩⟩
  · have h1 : (cutE (allX s.1 s.2) p).length = (cutE s.1 p).length + (cutE s.2.flatten.flatten p).length := by
      have := (hp.filter (fun e : En => decide (e.2.2 < p))).length_eq
      unfold cutE
      rw [this, List.filter_append, List.length_append]
    have h2 := hp.length_eq
    rw [List.length_append] at h2
    have h3 := List.length_filter_le (fun e : En => decide (e.2.2 < p)) s.1
    unfold goneI
    unfold cutE at *
    omega
end Go.Proofs.Ytfjilngofdahgaa
