/- Laws of chunks as plain lists. No program here. -/
import Derived.Test.YtolgjknpifpmbaaChunkLaw
namespace Go.Proofs.Ytolgjknpifpmbaa
open Go.RowKit
set_option linter.unusedVariables false

/-- records of bodies -/
def recs (l : List (List UInt8)) : List (List UInt8) := l.map (1 :: ·)
theorem recs_append (l m : List (List UInt8)) : recs (l ++ m) = recs l ++ recs m := by simp [recs]
theorem recs_length (l : List (List UInt8)) : (recs l).length = l.length := by simp [recs]

theorem begin_start (n s : Int) (r : List UInt8) (hn : 0 ≤ n ∧ n ≤ 999999) (hs : 100 ≤ s ∧ s ≤ 1000000) : beginL (frameL (startB n s) ++ r) = some (n, s, 33) := by
  have hf := first_frame (startB n s) r (by rw [startB_length]; decide)
  rw [startB_length] at hf
  have d5 : (startB n s).drop 5 = twoL n s := rfl
  have t1 : ((startB n s).drop 5).take 8 = be64 n := by rw [d5]; unfold twoL; rw [List.take_left' (be64_length n)]
  have t2 : ((startB n s).drop 13).take 8 = be64 s := by
    rw [show (13 : Nat) = 5 + 8 from rfl, ← List.drop_drop, d5]; unfold twoL
    rw [List.drop_left' (be64_length n), List.take_of_length_le (by rw [be64_length]; decide)]
  have i1 : i64L (be64 n) = n := i64L_be64 n (by omega)
  have i2 : i64L (be64 s) = s := i64L_be64 s (by omega)
  have hst : startL n s = (frameL (startB n s), 0) := by unfold startL; rw [if_pos ⟨hn, hs⟩]
  have htk : (frameL (startB n s) ++ r).take 33 = frameL (startB n s) := by rw [List.take_left' (by rw [frameL_length, startB_length])]
  unfold beginL
  rw [hf, if_neg (by simp [startB_length])]
  simp only []
  rw [t1, t2, i1, i2, hst, if_neg (by rw [htk]; simp)]
theorem begin_cut (n s : Int) (r : List UInt8) (j : Nat) (hj : j < 33) : beginL ((frameL (startB n s) ++ r).take j) = none := by
  have hf := first_cut (startB n s) r j (by rw [startB_length]; decide) (by rw [startB_length]; omega)
  unfold beginL
  rw [hf, if_pos (.inl (by decide))]

theorem step_record {n : Int} {b : List UInt8} {l : List (List UInt8)} {pre x r : List UInt8} (hb : b = pre ++ (frameL (1 :: x) ++ r)) (hx : x.length < 4000) :
    readStep n b l pre.length = some (l ++ [x], pre.length + (x.length + 13), false) := by
  have hf := first_frame (1 :: x) r (by simp; omega)
  have hd : b.drop pre.length = frameL (1 :: x) ++ r := by rw [hb, List.drop_left' rfl]
  unfold readStep
  rw [hd, hf, if_neg (by simp)]
  simp
theorem rest_records (n : Int) : ∀ (m : List (List UInt8)) (b : List UInt8) (l : List (List UInt8)) (pre r : List UInt8), b = pre ++ (layAll (recs m) ++ r) → (∀ x ∈ m, x.length < 4000) →
    readRest n b l pre.length = readRest n b (l ++ m) (pre.length + (layAll (recs m)).length) := by
  intro m
  induction m with
  | nil => intro b l pre r hb _; simp [recs, layAll]
  | cons x m ih =>
    intro b l pre r hb hm
    have hx := hm x (by simp)
    have hc : layAll (recs (x :: m)) = frameL (1 :: x) ++ layAll (recs m) := layAll_cons (1 :: x) (recs m)
    rw [hc] at hb ⊢
    rw [List.append_assoc] at hb
    rw [readRest_more (step_record hb hx)]
    have hl : (frameL (1 :: x)).length = x.length + 13 := by rw [frameL_length]; simp
    have := ih b (l ++ [x]) (pre ++ frameL (1 :: x)) r (by rw [hb]; simp) (fun y hy => hm y (by simp [hy]))
    rw [List.length_append, hl] at this
    rw [this, List.length_append, hl]
    simp [Nat.add_assoc]
theorem frameL_inj {a b : List UInt8} (h : frameL a = frameL b) : a = b := by
  have := congrArg (fun f => (fOpen f).1) h
  simpa [fOpen_frame] using this
theorem finishB_inj {n c n' c' : Int} (h : finishB n c = finishB n' c') (hn : -9223372036854775808 ≤ n ∧ n ≤ 9223372036854775807) (hc : -9223372036854775808 ≤ c ∧ c ≤ 9223372036854775807)
    (hn' : -9223372036854775808 ≤ n' ∧ n' ≤ 9223372036854775807) (hc' : -9223372036854775808 ≤ c' ∧ c' ≤ 9223372036854775807) : n = n' ∧ c = c' := by
  have h2 : twoL n c = twoL n' c' := by unfold finishB at h; exact List.append_cancel_left h
  have h3 := List.append_inj h2 (by rw [be64_length, be64_length])
  exact ⟨by rw [← i64L_be64 n hn, h3.1, i64L_be64 n' hn'], by rw [← i64L_be64 c hc, h3.2, i64L_be64 c' hc']⟩
theorem step_finish {n n' c' : Int} {b : List UInt8} {l : List (List UInt8)} {pre r : List UInt8} (hb : b = pre ++ (frameL (finishB n' c') ++ r)) (hn : 0 ≤ n ∧ n ≤ 999999) (hl : l.length ≤ 1000000)
    (hn' : 0 ≤ n' ∧ n' ≤ 999999) (hc' : 0 ≤ c' ∧ c' ≤ 1000000) :
    readStep n b l pre.length = if n = n' ∧ (l.length : Int) = c' then some (l, pre.length + 33, true) else none := by
  have hf := first_frame (finishB n' c') r (by rw [finishB_length]; decide)
  rw [finishB_length] at hf
  have hd : b.drop pre.length = frameL (finishB n' c') ++ r := by rw [hb, List.drop_left' rfl]
  have htk : (frameL (finishB n' c') ++ r).take 33 = frameL (finishB n' c') := by rw [List.take_left' (by rw [frameL_length, finishB_length])]
  have hfi : finishL n l.length = (frameL (finishB n l.length), 0) := by unfold finishL; rw [if_pos ⟨hn, by omega⟩]
  unfold readStep
  rw [hd, hf, if_neg (by simp [finishB]), if_neg (by simp [finishB])]
  simp only []
  rw [show (21 + 12 : Nat) = 33 from rfl, htk, hfi]
  by_cases h : n = n' ∧ (l.length : Int) = c'
  · rw [if_pos h, if_pos (by rw [h.1, h.2])]
  · rw [if_neg h, if_neg]
    intro e
    exact h (finishB_inj (frameL_inj e) (by omega) (by omega) (by omega) (by omega))
theorem step_none {n : Int} {b : List UInt8} {l : List (List UInt8)} {good : Nat} (h : (firstL (b.drop good)).2.2 ≠ 0) : readStep n b l good = none := by
  unfold readStep; rw [if_pos (.inl h)]
/-- of records of which some first bytes are kept: those that are there whole -/
theorem rest_kept (n : Int) (l : List (List UInt8)) (pre : List UInt8) (k m : Nat) (h : ∀ x ∈ l, x.length < 4000) (hm : m ≤ l.length) (h1 : pre.length + endsL (recs l) m ≤ k)
    (h2 : m < l.length → k < pre.length + endsL (recs l) (m + 1)) :
    readRest n ((pre ++ layAll (recs l)).take k) [] pre.length = (l.take m, pre.length + endsL (recs l) m, false) := by
  have h4 : ∀ b ∈ recs l, b.length ≤ 4000 := by
    intro b hb
    obtain ⟨x, hx, rfl⟩ := List.mem_map.1 hb
    have := h x hx
    simp; omega
  have hrt : recs (l.take m) = (recs l).take m := by unfold recs; rw [List.map_take]
  have hsplit : layAll (recs l) = layAll (recs (l.take m)) ++ layAll ((recs l).drop m) := by rw [hrt, ← layAll_append, List.take_append_drop]
  have hen : (layAll (recs (l.take m))).length = endsL (recs l) m := by rw [hrt]; rfl
  obtain ⟨tl, htl⟩ : ∃ tl, (layAll ((recs l).drop m)).take (k - (pre.length + endsL (recs l) m)) = tl := ⟨_, rfl⟩
  have hb : (pre ++ layAll (recs l)).take k = pre ++ (layAll (recs (l.take m)) ++ tl) := by
    rw [hsplit, ← List.append_assoc, List.take_append, List.take_of_length_le (by rw [List.length_append, hen]; exact h1), List.length_append, hen, htl, List.append_assoc]
  rw [rest_records n (l.take m) _ [] pre tl hb (fun x hx => h x (List.mem_of_mem_take hx)), hen, List.nil_append]
  apply readRest_none
  apply step_none
  rw [hb, ← List.append_assoc, List.drop_left' (by rw [List.length_append, hen]), ← htl]
  by_cases hlt : m < l.length
  · have hlt2 : m < (recs l).length := by rw [recs_length]; exact hlt
    have hd : (recs l).drop m = (recs l)[m] :: (recs l).drop (m + 1) := List.drop_eq_getElem_cons hlt2
    have he : endsL (recs l) (m + 1) = endsL (recs l) m + ((recs l)[m].length + 12) := by
      unfold endsL
      rw [List.take_succ_eq_append_getElem hlt2, layAll_append, List.length_append]
      congr 1
      rw [layAll_cons, show layAll [] = [] from rfl, List.append_nil, frameL_length]
    rw [hd, layAll_cons, first_cut _ _ _ (h4 _ (List.getElem_mem hlt2)) (by have := h2 hlt; omega)]
    decide
  · rw [List.drop_of_length_le (by rw [recs_length]; omega)]
    simp [layAll, first_nil]
end Go.Proofs.Ytolgjknpifpmbaa
