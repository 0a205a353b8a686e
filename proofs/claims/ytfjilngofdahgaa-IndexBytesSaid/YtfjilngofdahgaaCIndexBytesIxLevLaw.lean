/- chapter 14: how many tables levels have, plainly. No program here. -/
import Derived.Test.YtfjilngofdahgaaCIndexBytesIxAdd

namespace Go.Proofs.Ytfjilngofdahgaa
set_option maxHeartbeats 1000000
set_option linter.unusedVariables false

theorem sorted_nodup {l : List En} (h : SortedE l) : l.Nodup := by
  unfold List.Nodup
  exact List.Pairwise.imp (fun {a b} hab e => by rw [e, ltE_irrefl] at hab; cases hab) h
theorem perm_adds {ps : List En} (hn : ps.Nodup) (hok : ∀ p ∈ ps, okE p = true) : (addsE [] ps).Perm ps := by
  refine (List.perm_ext_iff_of_nodup (sorted_nodup (adds_sorted (by simp [SortedE]) ps)) hn).2 (fun y => ?_)
  rw [adds_mem]
  constructor
  · rintro (h | h)
    · cases h
    · exact h.2
  · intro h
    exact .inr ⟨hok y h, h⟩
theorem perm_ins {l : List En} {e : En} (h : newE l e = true) : (insE l e).Perm (e :: l) := by
  unfold insE
  rw [if_pos h]
  exact (List.perm_middle).trans (by rw [List.take_append_drop])
def SzX (M : Nat) : Nat → List Lv → Prop
  | _, [] => True
  | m, l :: r => l.length < M ∧ (∀ t ∈ l, t.length = m) ∧ SzX M (m * M) r
def flO (o : Option Tb) : Tb := match o with | none => [] | some t => t
theorem flat_O (l : Lv) (o : Option Tb) : (l ++ o.toList).flatten = l.flatten ++ flO o := by
  cases o <;> simp [flO]
theorem flat_len_eq {l : Lv} {m : Nat} (h : ∀ t ∈ l, t.length = m) : l.flatten.length = l.length * m := by
  induction l with
  | nil => simp
  | cons t l ih =>
    have h1 := ih (fun t ht => h t (List.mem_cons_of_mem _ ht))
    have h2 := h t (List.mem_cons_self ..)
    simp only [List.flatten_cons, List.length_append, List.length_cons, h1, h2]
    rw [Nat.add_mul]; omega
theorem carry_inv (M : Nat) (hM : 2 ≤ M) (lv : List Lv) : ∀ (m : Nat) (o : Option Tb), SzX M m lv → (∀ t, o = some t → t.length = m) → (lv.flatten.flatten ++ flO o).Nodup → (∀ y ∈ lv.flatten.flatten ++ flO o, okE y = true) →
    SzX M m (carryX (M : Int) lv o) ∧ (carryX (M : Int) lv o).flatten.flatten.Perm (lv.flatten.flatten ++ flO o) := by
  induction lv with
  | nil =>
    intro m o _ ho _ _
    cases o with
    | none => exact ⟨by simp [carryX, SzX], by simp [carryX, flO]⟩
    | some t => exact ⟨by unfold carryX; refine ⟨by simp; omega, fun t' ht' => ?_, trivial⟩; simp at ht'; rw [ht']; exact ho t rfl, by simp [carryX, flO]⟩
  | cons l r ih =>
    intro m o hs ho hnd hok
    obtain ⟨h1, h2, h3⟩ := hs
    have hl' : ∀ t ∈ l ++ o.toList, t.length = m := fun t ht => by
      rcases List.mem_append.1 ht with h | h
      · exact h2 t h
      · cases o with
        | none => simp at h
        | some t' => simp at h; rw [h]; exact ho t' rfl
    have hll : (l ++ o.toList).length ≤ M := by
      rw [List.length_append]
      cases o <;> simp <;> omega
    have hp0 : ((l :: r).flatten.flatten ++ flO o).Perm (r.flatten.flatten ++ (l ++ o.toList).flatten) := by
      rw [flat_O, List.flatten_cons, List.flatten_append]
      have := (List.perm_append_comm (l₁ := l.flatten) (l₂ := r.flatten.flatten)).append_right (flO o)
      rw [List.append_assoc, List.append_assoc] at *
      exact this
    unfold carryX
    by_cases hf : (M : Int) ≤ ((l ++ o.toList).length : Int)
    · rw [if_pos hf]
      have hLM : (l ++ o.toList).length = M := by omega
      have hnd2 := hp0.nodup hnd
      have hok2 : ∀ y ∈ r.flatten.flatten ++ (l ++ o.toList).flatten, okE y = true := fun y hy => hok y (hp0.mem_iff.2 hy)
      have hnl : (l ++ o.toList).flatten.Nodup := (List.nodup_append.1 hnd2).2.1
      have hpj := perm_adds hnl (fun p hp => hok2 p (List.mem_append_right _ hp))
      have hpj2 : (r.flatten.flatten ++ joinX (l ++ o.toList)).Perm (r.flatten.flatten ++ (l ++ o.toList).flatten) := List.Perm.append_left _ hpj
      have hjl : (joinX (l ++ o.toList)).length = m * M := by
        have := hpj.length_eq
        unfold joinX
        rw [this, flat_len_eq hl', hLM, Nat.mul_comm]
      obtain ⟨k1, k2⟩ := ih (m * M) (some (joinX (l ++ o.toList))) h3 (fun t ht => by injection ht with ht; rw [← ht]; exact hjl) (hpj2.symm.nodup hnd2) (fun y hy => hok2 y (hpj2.mem_iff.1 hy))
      refine ⟨⟨by simp; omega, fun t ht => by simp at ht, k1⟩, ?_⟩
      rw [List.flatten_cons, List.nil_append]
      exact k2.trans (hpj2.trans hp0.symm)
    · rw [if_neg hf]
      have hnr : (r.flatten.flatten ++ flO none).Nodup := by
        have := (List.nodup_append.1 (hp0.nodup hnd)).1
        simpa [flO] using this
      obtain ⟨k1, k2⟩ := ih (m * M) none h3 (fun t ht => by cases ht) hnr (fun y hy => hok y (hp0.mem_iff.2 (List.mem_append_left _ (by simpa [flO] using hy))))
      refine ⟨⟨by omega, hl', k1⟩, ?_⟩
      rw [List.flatten_cons, List.flatten_append]
      have k3 : (carryX (M : Int) r none).flatten.flatten.Perm r.flatten.flatten := by simpa [flO] using k2
      exact (List.Perm.append_left _ k3).trans (List.perm_append_comm.trans hp0.symm)
theorem put0_head (lv : List Lv) (t : Tb) : putX lv 0 t = headX lv t := by
  cases lv with
  | nil => rfl
  | cons l r => unfold putX headX; simp
/-- the i-th entry -/
def ev14 (i : Nat) : En := (((i % 5 : Nat) : Int), (i : Int), (i : Int))
def evs14 (i : Nat) : List En := (List.range i).map ev14
theorem ev14_ok (i : Nat) : okE (ev14 i) = true := by unfold okE ev14; simp; omega
theorem ev14_inj {i j : Nat} (h : ev14 i = ev14 j) : i = j := by
  have := congrArg (fun e : En => e.2.2) h
  simp only [ev14] at this
  omega
theorem evs14_nodup (i : Nat) : (evs14 i).Nodup := by
  unfold evs14 List.Nodup
  rw [List.pairwise_map]
  exact List.Pairwise.imp (fun {a b} hab e => hab (ev14_inj e)) List.nodup_range
theorem evs14_ok {i : Nat} {y : En} (h : y ∈ evs14 i) : okE y = true := by
  obtain ⟨j, _, rfl⟩ := List.mem_map.1 h
  exact ev14_ok j
theorem evs14_not (i : Nat) : ev14 i ∉ evs14 i := fun h => by
  obtain ⟨j, hj, he⟩ := List.mem_map.1 h
  have := ev14_inj he
  simp at hj
  omega
theorem evs14_succ (i : Nat) : evs14 (i + 1) = evs14 i ++ [ev14 i] := by unfold evs14; rw [List.range_succ, List.map_append]; rfl
structure InvX (m M i : Nat) (s : Tb × List Lv) : Prop where
  mem : s.1.length < m
  sz : SzX M m s.2
  perm : (s.1 ++ s.2.flatten.flatten).Perm (evs14 i)
  srt : SortedE s.1
theorem InvX.all {m M i : Nat} {s : Tb × List Lv} (h : InvX m M i s) : (allX s.1 s.2).length = i := by
  have hn := h.perm.symm.nodup (evs14_nodup i)
  have := (perm_adds hn (fun p hp => evs14_ok (h.perm.mem_iff.1 hp))).length_eq
  unfold allX
  rw [this, h.perm.length_eq]
  simp [evs14]
theorem InvX.step {m M i : Nat} {s : Tb × List Lv} (h : InvX m M i s) (hM : 2 ≤ M) : InvX m M (i + 1) (addX (m : Int) (M : Int) s (ev14 i)) ∧ cntX s (ev14 i) = 1 := by
  have hnot : ∀ y, y ∈ s.1 ++ s.2.flatten.flatten → y ≠ ev14 i := fun y hy e => evs14_not i (e ▸ h.perm.mem_iff.1 hy)
  have hhas : hasX s (ev14 i) = false := by
    unfold hasX
    rw [decide_eq_false_iff_not]
    intro hf
    unfold findE at hf
    obtain ⟨e', he', hp⟩ := List.mem_map.1 hf
    rw [List.mem_filter, decide_eq_true_iff] at he'
    have he : e' = ev14 i := Prod.ext he'.2.1 (Prod.ext he'.2.2 hp)
    unfold allX at he'
    rw [adds_mem] at he'
    rcases he'.1 with h1 | h1
    · cases h1
    · exact hnot e' h1.2 he
  have hnew : newE s.1 (ev14 i) = true := by
    unfold newE
    rw [ev14_ok, Bool.and_true]
    cases hb : hasE s.1 (ev14 i) with
    | false => rfl
    | true =>
      unfold hasE at hb
      rw [decide_eq_true_iff] at hb
      exact absurd rfl (hnot _ (List.mem_append_left _ (List.mem_of_getElem? hb)))
  have hpi := perm_ins hnew
  have hil : (insE s.1 (ev14 i)).length = s.1.length + 1 := by rw [hpi.length_eq]; rfl
  have hp1 : (insE s.1 (ev14 i) ++ s.2.flatten.flatten).Perm (evs14 (i + 1)) := by
    rw [evs14_succ]
    refine (hpi.append_right _).trans ?_
    rw [List.cons_append]
    exact (h.perm.cons _).trans (List.perm_append_comm (l₁ := [ev14 i]))
  have hm := h.mem
  by_cases hr : (m : Int) ≤ ((insE s.1 (ev14 i)).length : Int)
  · obtain ⟨a1, a2⟩ := addX_full (m : Int) (M : Int) hhas hnew hr
    refine ⟨?_, a2⟩
    rw [a1]
    unfold flushX
    rw [if_neg (by dsimp only; omega)]
    dsimp only
    rw [put0_head, carry_head _ (by omega)]
    have hp2 : (s.2.flatten.flatten ++ flO (some (insE s.1 (ev14 i)))).Perm (evs14 (i + 1)) := (List.perm_append_comm).trans hp1
    obtain ⟨k1, k2⟩ := carry_inv M hM s.2 m (some (insE s.1 (ev14 i))) h.sz (fun t ht => by injection ht with ht; rw [← ht]; omega) (hp2.symm.nodup (evs14_nodup _)) (fun y hy => evs14_ok (hp2.mem_iff.1 hy))
    exact ⟨by dsimp only [List.length_nil]; omega, k1, by rw [List.nil_append]; exact k2.trans hp2, by simp [SortedE]⟩
  · obtain ⟨a1, a2⟩ := addX_room (m : Int) (M : Int) hhas hnew hr
    refine ⟨?_, a2⟩
    rw [a1]
    exact ⟨by dsimp only; omega, h.sz, hp1, ins_sorted h.srt _⟩
theorem InvX.zero {m M : Nat} (hm : 0 < m) : InvX m M 0 ([], []) := ⟨hm, trivial, by simp [evs14], by simp [SortedE]⟩
/-! ### the levels' weights -/
def wsum (M : Nat) : Nat → List Int → Int
  | _, [] => 0
  | m, x :: xs => x * (m : Int) + wsum M (m * M) xs
theorem wsum_app (M : Nat) (a b : List Int) : ∀ m, wsum M m (a ++ b) = wsum M m a + wsum M (m * M ^ a.length) b := by
  induction a with
  | nil => intro m; simp [wsum]
  | cons x xs ih =>
    intro m
    simp only [List.cons_append, wsum, ih, List.length_cons]
    rw [Nat.pow_succ, Nat.mul_comm (M ^ xs.length) M, ← Nat.mul_assoc]
    omega
theorem wsum_zeros (M k : Nat) : ∀ m, wsum M m (List.replicate k 0) = 0 := by
  induction k with
  | zero => intro m; rfl
  | succ k ih => intro m; simp only [List.replicate_succ, wsum, ih]; omega
def lensI (lv : List Lv) : List Int := lv.map fun l => (l.length : Int)
theorem sz_total (M : Nat) (lv : List Lv) : ∀ m, SzX M m lv → (lv.flatten.flatten.length : Int) = wsum M m (lensI lv) := by
  induction lv with
  | nil => intro m _; rfl
  | cons l r ih =>
    intro m h
    obtain ⟨_, h2, h3⟩ := h
    have h4 := ih (m * M) h3
    have h5 := flat_len_eq h2
    unfold lensI at *
    simp only [List.flatten_cons, List.flatten_append, List.length_append, List.map_cons, wsum]
    rw [← h4, h5]
    simp
theorem sz_few (M : Nat) (lv : List Lv) : ∀ m, SzX M m lv → ∀ l ∈ lv, l.length < M := by
  induction lv with
  | nil => intro m _ l hl; cases hl
  | cons a r ih =>
    intro m h l hl
    obtain ⟨h1, _, h3⟩ := h
    rcases List.mem_cons.1 hl with rfl | h
    · exact h1
    · exact ih _ h3 l h
theorem cuts_wsum (M m : Nat) (lv : List Lv) : wsum M m (cutsX lv) = wsum M m (lensI lv) := by
  suffices h : ∀ k, k ≤ lv.length → wsum M m (cutsX (lv.take k)) = wsum M m (lensI (lv.take k)) by
    have := h lv.length (Nat.le_refl _)
    rwa [List.take_of_length_le (Nat.le_refl _)] at this
  intro k
  induction k with
  | zero => intro _; simp [cutsX, lensI]
  | succ k ih =>
    intro hk
    have h1 := ih (by omega)
    have hl : lv[k]? = some lv[k] := List.getElem?_eq_getElem (by omega)
    have hcl : (cutsX (lv.take k)).length ≤ k := Nat.le_trans (cuts_le _) (by rw [List.length_take]; omega)
    have e1 : lensI (lv.take (k + 1)) = lensI (lv.take k) ++ [(lv[k].length : Int)] := by
      rw [take_snocE hl]; unfold lensI; rw [List.map_append]; rfl
    have e2 : (lensI (lv.take k)).length = k := by unfold lensI; rw [List.length_map, List.length_take]; omega
    rw [cuts_next hl, e1, wsum_app, e2]
    split
    · rw [wsum_app, wsum_app, wsum_zeros, h1]
      have e3 : (cutsX (lv.take k) ++ List.replicate (k - (cutsX (lv.take k)).length) (0 : Int)).length = k := by rw [List.length_append, List.length_replicate]; omega
      rw [e3]
      omega
    · next h0 =>
      have : lv[k].length = 0 := by omega
      rw [h1, this]
      simp [wsum]
theorem cuts_in (lv : List Lv) {B : Nat} (hB : 0 < B) (h : ∀ l ∈ lv, l.length < B) : ∀ x ∈ cutsX lv, 0 ≤ x ∧ x < (B : Int) := by
  suffices hs : ∀ k, k ≤ lv.length → ∀ x ∈ cutsX (lv.take k), 0 ≤ x ∧ x < (B : Int) by
    have := hs lv.length (Nat.le_refl _)
    rwa [List.take_of_length_le (Nat.le_refl _)] at this
  intro k
  induction k with
  | zero => intro _ x hx; simp [cutsX] at hx
  | succ k ih =>
    intro hk x hx
    have h1 := ih (by omega)
    have hl : lv[k]? = some lv[k] := List.getElem?_eq_getElem (by omega)
    rw [cuts_next hl] at hx
    split at hx
    · rcases List.mem_append.1 hx with hx | hx
      · rcases List.mem_append.1 hx with hx | hx
        · exact h1 x hx
        · have := List.eq_of_mem_replicate hx
          omega
      · simp at hx
        have := h lv[k] (List.getElem_mem _)
        omega
    · exact h1 x hx
theorem cuts_last (lv : List Lv) : cutsX lv = [] ∨ ∃ a x, cutsX lv = a ++ [x] ∧ 1 ≤ x := by
  suffices hs : ∀ k, k ≤ lv.length → (cutsX (lv.take k) = [] ∨ ∃ a x, cutsX (lv.take k) = a ++ [x] ∧ 1 ≤ x) by
    have := hs lv.length (Nat.le_refl _)
    rwa [List.take_of_length_le (Nat.le_refl _)] at this
  intro k
  induction k with
  | zero => intro _; left; simp [cutsX]
  | succ k ih =>
    intro hk
    have hl : lv[k]? = some lv[k] := List.getElem?_eq_getElem (by omega)
    rw [cuts_next hl]
    split
    · exact .inr ⟨_, _, rfl, by omega⟩
    · exact ih (by omega)
theorem wsum_pos (M : Nat) (a : List Int) (h : ∀ x ∈ a, 0 ≤ x) : ∀ m, 0 ≤ wsum M m a := by
  induction a with
  | nil => intro m; simp [wsum]
  | cons x xs ih =>
    intro m
    have h1 := ih (fun y hy => h y (List.mem_cons_of_mem _ hy)) (m * M)
    have h2 := h x (List.mem_cons_self ..)
    simp only [wsum]
    have := Int.mul_nonneg h2 (Int.natCast_nonneg m)
    omega
/-- the weight of the last level that has tables is at most what there is -/
theorem cuts_weight (M m : Nat) (lv : List Lv) (h : cutsX lv ≠ []) : ((m * M ^ ((cutsX lv).length - 1) : Nat) : Int) ≤ wsum M m (cutsX lv) := by
  have hn : ∀ x ∈ cutsX lv, 0 ≤ x := fun x hx => by
    obtain ⟨B, hB⟩ : ∃ B, ∀ l ∈ lv, l.length < B := by
      refine ⟨wLs lv + 1, fun l hl => ?_⟩
      obtain ⟨k, hk⟩ := List.getElem?_of_mem hl
      have h1 := level_few hk
      have h2 := flat_len l
      omega
    exact (cuts_in lv (B := B + 1) (by omega) (fun l hl => Nat.lt_succ_of_lt (hB l hl)) x hx).1
  rcases cuts_last lv with h0 | ⟨a, x, ha, hx⟩
  · exact absurd h0 h
  · rw [ha] at hn ⊢
    rw [wsum_app]
    have h1 := wsum_pos M a (fun y hy => hn y (List.mem_append_left _ hy)) m
    simp only [List.length_append, List.length_cons, List.length_nil, Nat.add_sub_cancel, wsum]
    have h2 : ((m * M ^ a.length : Nat) : Int) * 1 ≤ ((m * M ^ a.length : Nat) : Int) * x := Int.mul_le_mul_of_nonneg_left hx (Int.natCast_nonneg _)
    rw [Int.mul_comm x]
    omega
theorem InvX.weights {m M i : Nat} {s : Tb × List Lv} (h : InvX m M i s) : wsum M m (cutsX s.2) + (s.1.length : Int) = (i : Int) := by
  have h1 := sz_total M s.2 m h.sz
  have h2 := h.perm.length_eq
  rw [List.length_append] at h2
  rw [cuts_wsum, ← h1]
  have h3 : (evs14 i).length = i := by simp [evs14]
  omega
end Go.Proofs.Ytfjilngofdahgaa
