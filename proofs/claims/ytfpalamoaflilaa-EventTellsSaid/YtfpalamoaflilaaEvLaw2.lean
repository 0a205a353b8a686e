/- chapter 7: when a command may be. Plain laws. -/
import Derived.Test.YtfpalamoaflilaaEvLaw
namespace Go.Proofs.Ytfpalamoaflilaa
open Go.RowKit
set_option maxHeartbeats 1000000
set_option linter.unusedVariables false

theorem spareB_iff (c : Cmd) : spareB c = false ↔ ((c.k = 1 ∨ c.k = 2 ∨ c.k = 3) ∨ c.s.size = 0) ∧ ((c.k = 1 ∨ c.k = 3) ∨ c.x = 0) ∧ (c.k = 1 ∨ c.es.length = 0) ∧ (c.k = 2 ∨ (c.m0 = 0 ∧ c.m1 = 0 ∧ c.m2 = 0)) := by
  unfold spareB
  simp only [Bool.or_eq_false_iff, Bool.and_eq_false_iff, Bool.not_eq_false', Bool.or_eq_true, Bool.and_eq_true, decide_eq_true_eq, decide_eq_false_iff_not]
  constructor
  · rintro ⟨⟨⟨h1, h2⟩, h3⟩, h4⟩
    refine ⟨?_, ?_, ?_, ?_⟩
    · rcases h1 with (h | h) | h
      · rcases h with h | h
        · exact .inl (.inl h)
        · exact .inl (.inr (.inl h))
      · exact .inl (.inr (.inr h))
      · exact .inr h
    · rcases h2 with h | h
      · exact .inl h
      · exact .inr h
    · rcases h3 with h | h
      · exact .inl h
      · exact .inr (by omega)
    · rcases h4 with h | h
      · exact .inl h
      · exact .inr ⟨h.1.1, h.1.2, h.2⟩
  · rintro ⟨h1, h2, h3, h4⟩
    refine ⟨⟨⟨?_, ?_⟩, ?_⟩, ?_⟩
    · rcases h1 with (h | h | h) | h
      · exact .inl (.inl (.inl h))
      · exact .inl (.inl (.inr h))
      · exact .inl (.inr h)
      · exact .inr h
    · rcases h2 with h | h
      · exact .inl h
      · exact .inr h
    · rcases h3 with h | h
      · exact .inl h
      · exact .inr (by omega)
    · rcases h4 with h | h
      · exact .inl h
      · exact .inr ⟨⟨h.1, h.2.1⟩, h.2.2⟩
/-- may it be? -/
structure Right (c : Cmd) : Prop where
  k0 : 1 ≤ c.k
  k5 : c.k ≤ 5
  t : withinB c.t = true
  s : c.k ≤ 3 → nameB c.s = true
  e : c.k = 1 → evsErr c.es = 0
  x : c.k = 1 ∨ c.k = 3 → expectsB c.x = true
  m : c.k = 2 → metaB c.m0 c.m1 c.m2 = true
  p : spareB c = false
theorem checkC_iff (c : Cmd) : checkC c = 0 ↔ Right c := by
  unfold checkC
  constructor
  · intro h
    split at h
    · cases h
    next h1 =>
    split at h
    · cases h
    next h2 =>
    split at h
    · next h3 => exact absurd h h3.2
    next h3 =>
    split at h
    · cases h
    next h4 =>
    refine ⟨by omega, by omega, ?_, fun hk => ?_, fun hk => ?_, fun hk => ?_, fun hk => ?_, ?_⟩
    · cases hq : withinB c.t with
      | true => rfl
      | false => exact absurd (.inr (.inr hq)) h1
    · cases hq : nameB c.s with
      | true => rfl
      | false => exact absurd ⟨hk, hq⟩ h2
    · exact Classical.byContradiction fun hq => h3 ⟨hk, hq⟩
    · cases hq : expectsB c.x with
      | true => rfl
      | false => exact absurd (.inl ⟨hk, hq⟩) h4
    · cases hq : metaB c.m0 c.m1 c.m2 with
      | true => rfl
      | false => exact absurd (.inr (.inl ⟨hk, hq⟩)) h4
    · cases hq : spareB c with
      | false => rfl
      | true => exact absurd (.inr (.inr hq)) h4
  · intro h
    rw [if_neg (by rintro (h1 | h1 | h1); exact absurd h.k0 (by omega); exact absurd h.k5 (by omega); rw [h.t] at h1; cases h1), if_neg (by rintro ⟨h1, h2⟩; rw [h.s h1] at h2; cases h2), if_neg (by rintro ⟨h1, h2⟩; exact h2 (h.e h1)), if_neg]
    rintro (⟨h1, h2⟩ | ⟨h1, h2⟩ | h1)
    · rw [h.x h1] at h2; cases h2
    · rw [h.m h1] at h2; cases h2
    · rw [h.p] at h1; cases h1
/-- behind all other tests, with spare parts: an argument that can't be -/
theorem checkC_spare {c : Cmd} (h0 : 1 ≤ c.k) (h5 : c.k ≤ 5) (ht : withinB c.t = true) (hs : c.k ≤ 3 → nameB c.s = true) (he : c.k = 1 → evsErr c.es = 0) (hp : spareB c = true) : checkC c = 1 := by
  unfold checkC
  rw [if_neg (by rintro (h1 | h1 | h1); omega; omega; rw [ht] at h1; cases h1), if_neg (by rintro ⟨h1, h2⟩; rw [hs h1] at h2; cases h2), if_neg (by rintro ⟨h1, h2⟩; exact h2 (he h1)), if_pos (.inr (.inr hp))]
theorem parts_time {c : Cmd} (h : checkC c = 0) (t : Int) : checkC ⟨c.k, t, c.s, c.x, c.es, c.m0, c.m1, c.m2⟩ = if 0 ≤ t ∧ t ≤ 1099511627776 then 0 else 1 := by
  have hr := (checkC_iff c).1 h
  split
  · next ht =>
    rw [checkC_iff]
    exact ⟨hr.k0, hr.k5, decide_eq_true ht, hr.s, hr.e, hr.x, hr.m, hr.p⟩
  · next ht =>
    unfold checkC
    rw [if_pos (.inr (.inr (decide_eq_false ht)))]
theorem parts_meta {c : Cmd} (h : checkC c = 0) : checkC ⟨c.k, c.t, c.s, c.x, c.es, c.m0, c.m1, 1⟩ = if c.k = 2 then 0 else 1 := by
  have hr := (checkC_iff c).1 h
  have hp := (spareB_iff c).1 hr.p
  split
  · next hk =>
    rw [checkC_iff]
    refine ⟨hr.k0, hr.k5, hr.t, hr.s, hr.e, hr.x, fun _ => ?_, ?_⟩
    · have := hr.m hk
      unfold metaB at this ⊢
      simp only [Bool.and_eq_true] at this ⊢
      exact ⟨this.1, rfl⟩
    · rw [spareB_iff]
      exact ⟨hp.1, hp.2.1, hp.2.2.1, .inl hk⟩
  · next hk =>
    refine checkC_spare hr.k0 hr.k5 hr.t hr.s hr.e ?_
    cases hq : spareB ⟨c.k, c.t, c.s, c.x, c.es, c.m0, c.m1, 1⟩ with
    | true => rfl
    | false =>
      have := ((spareB_iff _).1 hq).2.2.2
      rcases this with h1 | h1
      · exact absurd h1 hk
      · exact absurd (show (1 : Int) = 0 from h1.2.2) (by decide)
def evT : Ev := ⟨1, ⟨#[116]⟩, ⟨#[]⟩, 0⟩
theorem nameT : nameB ⟨#[116]⟩ = true := by decide
theorem nameS : nameB ⟨#[115]⟩ = true := by decide
theorem validT (i : Int) (h : 1 ≤ i) : validE ⟨i, ⟨#[116]⟩, ⟨#[]⟩, 0⟩ = true := by
  unfold validE
  rw [nameT, decide_eq_true (show (1 : Int) ≤ i from h)]
  rfl
theorem evsT : evsErr [evT] = 0 := by
  unfold evsErr
  rw [if_neg (by simp), if_neg (by simp), if_pos]
  rw [List.all_cons, List.all_nil]
  show (validE ⟨1, ⟨#[116]⟩, ⟨#[]⟩, 0⟩ && true) = true
  rw [validT 1 (by decide)]
  rfl
theorem parts_events {c : Cmd} (h : checkC c = 0) : checkC ⟨c.k, c.t, c.s, c.x, [evT], c.m0, c.m1, c.m2⟩ = if c.k = 1 then 0 else 1 := by
  have hr := (checkC_iff c).1 h
  have hp := (spareB_iff c).1 hr.p
  split
  · next hk =>
    rw [checkC_iff]
    refine ⟨hr.k0, hr.k5, hr.t, hr.s, fun _ => evsT, hr.x, hr.m, ?_⟩
    rw [spareB_iff]
    exact ⟨hp.1, hp.2.1, .inl hk, hp.2.2.2⟩
  · next hk =>
    refine checkC_spare hr.k0 hr.k5 hr.t hr.s (fun h1 => absurd h1 hk) ?_
    cases hq : spareB ⟨c.k, c.t, c.s, c.x, [evT], c.m0, c.m1, c.m2⟩ with
    | true => rfl
    | false =>
      have := ((spareB_iff _).1 hq).2.2.1
      rcases this with h1 | h1
      · exact absurd h1 hk
      · simp at h1
theorem parts_kind (c : Cmd) : checkC ⟨9, c.t, c.s, c.x, c.es, c.m0, c.m1, c.m2⟩ = 1 := by
  unfold checkC
  rw [if_pos (.inr (.inl (show (5 : Int) < 9 by decide)))]
/-- has a command few events, and short texts? -/
def smallC (s : ByteArray) (es : List Ev) : Bool := (es.take 20).all (fun e => decide (e.ty.size ≤ 100) && decide (e.da.size ≤ 300)) && decide (es.length ≤ 12) && decide (s.size ≤ 100)
theorem smallC_few {s : ByteArray} {es : List Ev} (h : smallC s es = true) : es.length ≤ 12 ∧ s.size ≤ 100 ∧ ∀ e ∈ es, e.ty.size ≤ 100 ∧ e.da.size ≤ 300 := by
  unfold smallC at h
  simp only [Bool.and_eq_true, decide_eq_true_eq] at h
  obtain ⟨⟨h1, h2⟩, h3⟩ := h
  refine ⟨h2, h3, fun e he => ?_⟩
  rw [List.take_of_length_le (by omega), List.all_eq_true] at h1
  have := h1 e he
  simp only [Bool.and_eq_true, decide_eq_true_eq] at this
  exact this
end Go.Proofs.Ytfpalamoaflilaa
