/- Entries in order: plain functions, and their laws. No program here. -/
import Derived.Test.YtfjilngofdahgaaMem
namespace Go.Proofs.Ytfjilngofdahgaa
set_option linter.unusedVariables false

/-- an entry: hash, version, place -/
abbrev En := Int × Int × Int
def ltE (a b : En) : Bool := decide (a.1 < b.1 ∨ a.1 = b.1 ∧ (a.2.1 < b.2.1 ∨ a.2.1 = b.2.1 ∧ a.2.2 < b.2.2))
def okE (e : En) : Bool := decide (0 ≤ e.1 ∧ 0 ≤ e.2.1 ∧ 0 ≤ e.2.2)
def SortedE (l : List En) : Prop := l.Pairwise fun a b => ltE a b = true
/-- how many stand ahead -/
def rankE : List En → En → Nat
  | [], _ => 0
  | x :: l, e => if ltE x e = true then rankE l e + 1 else 0
def hasE (l : List En) (e : En) : Bool := decide (l[rankE l e]? = some e)
/-- is an entry new to a list? -/
def newE (l : List En) (e : En) : Bool := !hasE l e && okE e
def insE (l : List En) (e : En) : List En := if newE l e = true then l.take (rankE l e) ++ e :: l.drop (rankE l e) else l

theorem ltE_irrefl (a : En) : ltE a a = false := by unfold ltE; rw [decide_eq_false_iff_not]; omega
theorem ltE_trans {a b c : En} (h1 : ltE a b = true) (h2 : ltE b c = true) : ltE a c = true := by
  unfold ltE at *; rw [decide_eq_true_iff] at *; omega
theorem ltE_asymm {a b : En} (h1 : ltE a b = true) : ltE b a = false := by
  unfold ltE at *; rw [decide_eq_true_iff] at h1; rw [decide_eq_false_iff_not]; omega
theorem ltE_total (a b : En) : ltE a b = true ∨ a = b ∨ ltE b a = true := by
  obtain ⟨a1, a2, a3⟩ := a; obtain ⟨b1, b2, b3⟩ := b
  unfold ltE; simp only [decide_eq_true_iff, Prod.mk.injEq]; omega

theorem rank_le (l : List En) (e : En) : rankE l e ≤ l.length := by
  induction l with
  | nil => exact Nat.le_refl _
  | cons x l ih => unfold rankE; split
                   · simpa using ih
                   · exact Nat.zero_le _
theorem rank_lt {l : List En} (hs : SortedE l) (e : En) : ∀ {i : Nat} {x : En}, l[i]? = some x → ltE x e = decide (i < rankE l e) := by
  induction l with
  | nil => intro i x h; simp at h
  | cons y l ih =>
    intro i x h
    obtain ⟨h1, h2⟩ := List.pairwise_cons.1 hs
    unfold rankE
    cases i with
    | zero =>
      simp at h; subst h
      split
      · rename_i hy; rw [hy]; simp
      · rename_i hy; simpa using hy
    | succ i =>
      have hx : l[i]? = some x := by simpa using h
      split
      · rw [ih h2 hx, decide_eq_decide]; omega
      · rename_i hy
        cases hc : ltE x e with
        | false => simp
        | true => exact absurd (ltE_trans (h1 x (List.mem_of_getElem? hx)) hc) hy
theorem rank_pre {l : List En} (hs : SortedE l) (e : En) : ∀ x ∈ l.take (rankE l e), ltE x e = true := by
  intro x hx
  obtain ⟨i, hi⟩ := List.getElem?_of_mem hx
  rw [List.getElem?_take] at hi
  split at hi
  · rw [rank_lt hs e hi]; simpa using ‹_›
  · cases hi
theorem rank_post {l : List En} (hs : SortedE l) (e : En) (hn : hasE l e = false) : ∀ x ∈ l.drop (rankE l e), ltE e x = true := by
  intro x hx
  obtain ⟨i, hi⟩ := List.getElem?_of_mem hx
  rw [List.getElem?_drop] at hi
  have h1 := rank_lt hs e hi
  rw [decide_eq_false (by omega)] at h1
  rcases ltE_total e x with h | h | h
  · exact h
  · subst h
    unfold hasE at hn
    rw [decide_eq_false_iff_not] at hn
    by_cases h0 : i = 0
    · subst h0; exact absurd hi hn
    · have hlen : rankE l e + i < l.length := (List.getElem?_eq_some_iff.1 hi).1
      have hr : l[rankE l e]? = some l[rankE l e] := List.getElem?_eq_getElem (by omega)
      have h2 := rank_lt hs e hr
      rw [decide_eq_false (by omega)] at h2
      have h3 : ltE l[rankE l e] e = true := by
        have := List.pairwise_iff_getElem.1 hs (rankE l e) (rankE l e + i) (by omega) hlen (by omega)
        rw [(List.getElem?_eq_some_iff.1 hi).2] at this
        exact this
      rw [h2] at h3; cases h3
  · rw [h1] at h; cases h
theorem ins_mem (l : List En) (e y : En) : y ∈ insE l e ↔ y ∈ l ∨ (okE e = true ∧ y = e) := by
  unfold insE
  split
  · rename_i hn
    have hok : okE e = true := by unfold newE at hn; simp at hn; exact hn.2
    rw [List.mem_append, List.mem_cons, hok]
    conv => rhs; rw [← List.take_append_drop (rankE l e) l, List.mem_append]
    simp only [true_and]
    constructor
    · rintro (h | h | h)
      · exact .inl (.inl h)
      · exact .inr h
      · exact .inl (.inr h)
    · rintro ((h | h) | h)
      · exact .inl h
      · exact .inr (.inr h)
      · exact .inr (.inl h)
  · rename_i hn
    constructor
    · exact .inl
    · rintro (h | ⟨h, rfl⟩)
      · exact h
      · unfold newE at hn
        rw [h, Bool.and_true] at hn
        have hh : hasE l y = true := by simpa using hn
        unfold hasE at hh
        rw [decide_eq_true_iff] at hh
        exact List.mem_of_getElem? hh
theorem ins_sorted {l : List En} (hs : SortedE l) (e : En) : SortedE (insE l e) := by
  unfold insE
  split
  · rename_i hn
    have hh : hasE l e = false := by unfold newE at hn; simp at hn; exact hn.1
    have h1 := rank_pre hs e
    have h2 := rank_post hs e hh
    have hs' := hs
    unfold SortedE at hs' ⊢
    rw [← List.take_append_drop (rankE l e) l, List.pairwise_append] at hs'
    rw [List.pairwise_append, List.pairwise_cons]
    refine ⟨hs'.1, ⟨fun x hx => h2 x hx, hs'.2.1⟩, fun x hx y hy => ?_⟩
    rcases List.mem_cons.1 hy with rfl | hy
    · exact h1 x hx
    · exact hs'.2.2 x hx y hy
  · exact hs
theorem ins_length (l : List En) (e : En) : (insE l e).length = l.length + if newE l e = true then 1 else 0 := by
  unfold insE
  split
  · have := rank_le l e
    rw [List.length_append, List.length_cons, List.length_take, List.length_drop]; omega
  · rfl
/-- a list in order is known by what is in it -/
theorem sorted_ext : ∀ {l1 l2 : List En}, SortedE l1 → SortedE l2 → (∀ y, y ∈ l1 ↔ y ∈ l2) → l1 = l2
  | [], [], _, _, _ => rfl
  | [], b :: l2, _, _, h => by have := (h b).2 (by simp); simp at this
  | a :: l1, [], _, _, h => by have := (h a).1 (by simp); simp at this
  | a :: l1, b :: l2, h1, h2, h => by
    obtain ⟨p1, q1⟩ := List.pairwise_cons.1 h1
    obtain ⟨p2, q2⟩ := List.pairwise_cons.1 h2
    have hab : a = b := by
      rcases List.mem_cons.1 ((h a).1 (by simp)) with e | e
      · exact e
      · rcases List.mem_cons.1 ((h b).2 (by simp)) with e2 | e2
        · exact e2.symm
        · have := ltE_asymm (p1 b e2)
          rw [p2 a e] at this; cases this
    subst hab
    have := sorted_ext q1 q2 (fun y => by
      constructor
      · intro hy
        rcases List.mem_cons.1 ((h y).1 (by simp [hy])) with e | e
        · subst e; have := p1 y hy; rw [ltE_irrefl] at this; cases this
        · exact e
      · intro hy
        rcases List.mem_cons.1 ((h y).2 (by simp [hy])) with e | e
        · subst e; have := p2 y hy; rw [ltE_irrefl] at this; cases this
        · exact e)
    rw [this]

/-- entries added one by one -/
def addsE (l : List En) (ps : List En) : List En := ps.foldl insE l
theorem adds_snoc (l ps : List En) (e : En) : addsE l (ps ++ [e]) = insE (addsE l ps) e := by simp [addsE]
theorem adds_mem (l ps : List En) (y : En) : y ∈ addsE l ps ↔ y ∈ l ∨ (okE y = true ∧ y ∈ ps) := by
  induction ps generalizing l with
  | nil => simp [addsE]
  | cons p ps ih =>
    show y ∈ addsE (insE l p) ps ↔ _
    rw [ih, ins_mem, List.mem_cons]
    constructor
    · rintro ((h | ⟨h, rfl⟩) | ⟨h, h2⟩)
      · exact .inl h
      · exact .inr ⟨h, .inl rfl⟩
      · exact .inr ⟨h, .inr h2⟩
    · rintro (h | ⟨h, rfl | h2⟩)
      · exact .inl (.inl h)
      · exact .inl (.inr ⟨h, rfl⟩)
      · exact .inr ⟨h, h2⟩
theorem adds_sorted {l : List En} (hs : SortedE l) (ps : List En) : SortedE (addsE l ps) := by
  induction ps generalizing l with
  | nil => exact hs
  | cons p ps ih => exact ih (ins_sorted hs p)
theorem adds_le (l ps : List En) : l.length ≤ (addsE l ps).length ∧ (addsE l ps).length ≤ l.length + ps.length := by
  induction ps generalizing l with
  | nil => simp [addsE]
  | cons p ps ih =>
    have h := ih (insE l p)
    have h2 := ins_length l p
    show l.length ≤ (addsE (insE l p) ps).length ∧ (addsE (insE l p) ps).length ≤ l.length + (p :: ps).length
    rw [List.length_cons]
    split at h2 <;> omega
/-- the order does not matter -/
theorem adds_perm {ps qs : List En} (h : ∀ y, y ∈ ps ↔ y ∈ qs) : addsE [] ps = addsE [] qs :=
  sorted_ext (adds_sorted List.Pairwise.nil _) (adds_sorted List.Pairwise.nil _) fun y => by rw [adds_mem, adds_mem, h]
theorem adds_twice (ps : List En) : addsE (addsE [] ps) ps = addsE [] ps :=
  sorted_ext (adds_sorted (adds_sorted List.Pairwise.nil _) _) (adds_sorted List.Pairwise.nil _) fun y => by
    rw [adds_mem, adds_mem]
    constructor
    · rintro (h | h)
      · exact h
      · exact .inr h
    · exact .inl

/-! ### what is found -/
def findE (l : List En) (h v : Int) : List Int := (l.filter fun e => decide (e.1 = h ∧ e.2.1 = v)).map (·.2.2)
def rangeE (l : List En) (h a b : Int) : List En := l.filter fun e => decide (e.1 = h ∧ a ≤ e.2.1 ∧ e.2.1 < b)
def lastE (l : List En) (h : Int) : Option En := (l.filter fun e => decide (e.1 = h)).getLast?
def cutE (l : List En) (p : Int) : List En := l.filter fun e => decide (e.2.2 < p)
theorem find_mem {l : List En} {e : En} (he : e ∈ l) : e.2.2 ∈ findE l e.1 e.2.1 := by
  unfold findE
  rw [List.mem_map]
  exact ⟨e, by rw [List.mem_filter]; exact ⟨he, by simp⟩, rfl⟩
theorem filter_snoc (p : En → Bool) (l : List En) (k : Nat) (e : En) (h : l[k]? = some e) : (l.take (k + 1)).filter p = (l.take k).filter p ++ if p e = true then [e] else [] := by
  rw [List.take_add_one, h, List.filter_append]
  congr 1
  cases hp : p e <;> simp [List.filter_cons, hp]
theorem cut_sorted {l : List En} (hs : SortedE l) (p : Int) : SortedE (cutE l p) := List.Pairwise.sublist List.filter_sublist hs
end Go.Proofs.Ytfjilngofdahgaa
