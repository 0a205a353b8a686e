/- Frames as plain lists of bytes, and their laws. No program here. -/
import Derived.Test.YtfjilngofdahgaaCIndexBytesCrcOne

namespace Go.Proofs.Ytfjilngofdahgaa
set_option linter.unusedVariables false

/-! ### numbers out of bytes -/
/-- the number that bytes are, the highest first -/
def beVal : List UInt8 → Nat
  | [] => 0
  | c :: l => c.toNat * 256 ^ l.length + beVal l
theorem beVal_lt (l : List UInt8) : beVal l < 256 ^ l.length := by
  induction l with
  | nil => simp [beVal]
  | cons c l ih =>
    simp only [beVal, List.length_cons, Nat.pow_succ]
    have hc : c.toNat + 1 ≤ 256 := c.toNat_lt
    have h1 : (c.toNat + 1) * 256 ^ l.length ≤ 256 * 256 ^ l.length := Nat.mul_le_mul_right _ hc
    rw [Nat.add_mul, Nat.one_mul] at h1
    rw [Nat.mul_comm (256 ^ l.length) 256]
    omega
theorem beVal_snoc (l : List UInt8) (c : UInt8) : beVal (l ++ [c]) = beVal l * 256 + c.toNat := by
  induction l with
  | nil => simp [beVal]
  | cons d l ih =>
    simp only [List.cons_append, beVal, List.length_append, List.length_cons, List.length_nil, Nat.zero_add, Nat.pow_succ, ih]
    rw [Nat.add_mul, Nat.mul_assoc]
    omega
theorem beBytes_mod (k m n : Nat) (h : m % 256 ^ k = n % 256 ^ k) : beBytes k m = beBytes k n := by
  have key : ∀ x j, j ≤ k → beBytes j (x % 256 ^ k) = beBytes j x := by
    intro x j
    induction j with
    | zero => intro _; rfl
    | succ j ihj =>
      intro hj
      simp only [beBytes]
      rw [ihj (by omega)]
      congr 1
      apply UInt8.toNat_inj.1
      rw [byteAt_toNat, byteAt_toNat]
      have e : 256 ^ k = 256 ^ j * 256 ^ (k - j) := by rw [← Nat.pow_add]; congr 1; omega
      rw [e, Nat.mod_mul_right_div_self]
      have e2 : 256 ^ (k - j) = 256 * 256 ^ (k - j - 1) := by rw [← Nat.pow_succ']; congr 1; omega
      rw [e2, Nat.mod_mul_right_mod]
  rw [← key m k (Nat.le_refl _), ← key n k (Nat.le_refl _), h]
theorem beBytes_beVal (l : List UInt8) : beBytes l.length (beVal l) = l := by
  induction l with
  | nil => rfl
  | cons c l ih =>
    simp only [List.length_cons, beBytes, beVal]
    have hl := beVal_lt l
    have hp : 0 < 256 ^ l.length := Nat.pow_pos (by decide)
    have h1 : (c.toNat * 256 ^ l.length + beVal l) / 256 ^ l.length = c.toNat := by
      rw [Nat.mul_comm, Nat.mul_add_div hp, Nat.div_eq_of_lt hl, Nat.add_zero]
    have h2 : byteAt (c.toNat * 256 ^ l.length + beVal l) l.length = c := by
      unfold byteAt; rw [h1]; simp
    rw [h2, beBytes_mod l.length _ (beVal l) (by rw [Nat.mul_comm, Nat.mul_add_mod]), ih]
theorem beVal_beBytes (k n : Nat) (h : n < 256 ^ k) : beVal (beBytes k n) = n := by
  have hl := beVal_lt (beBytes k n)
  rw [beBytes_length] at hl
  refine beBytes_inj k hl h ?_
  have := beBytes_beVal (beBytes k n)
  rwa [beBytes_length] at this

/-! ### frames -/
/-- the sum in a frame -/
def fSum (b : List UInt8) : List UInt8 := beBytes 4 (crc (beBytes 4 b.length ++ b)).toNat
/-- a body's frame -/
def frameL (b : List UInt8) : List UInt8 := beBytes 4 b.length ++ (fSum b ++ (b ++ beBytes 4 b.length))
theorem fSum_length (b : List UInt8) : (fSum b).length = 4 := beBytes_length _ _
theorem frameL_length (b : List UInt8) : (frameL b).length = b.length + 12 := by
  simp only [frameL, List.length_append, beBytes_length, fSum_length]; omega
/-- what open tells of a frame of which both lengths are alike -/
def fOpen (f : List UInt8) : List UInt8 × Int :=
  if (f.drop 4).take 4 = beBytes 4 (crc (f.take 4 ++ (f.drop 8).take (f.length - 12))).toNat then ((f.drop 8).take (f.length - 12), 0) else ([], 7)
/-- the first frame -/
def firstL (b : List UInt8) : List UInt8 × Nat × Int :=
  if b.length < 12 then ([], 0, 5) else
  if 4000 < beVal (b.take 4) then ([], 0, 6) else
  if b.length < beVal (b.take 4) + 12 then ([], 0, 5) else
  if (b.take (beVal (b.take 4) + 12)).drop (beVal (b.take 4) + 8) ≠ b.take 4 then ([], 0, 6) else
  if (fOpen (b.take (beVal (b.take 4) + 12))).2 ≠ 0 then ([], 0, (fOpen (b.take (beVal (b.take 4) + 12))).2) else
  ((fOpen (b.take (beVal (b.take 4) + 12))).1, beVal (b.take 4) + 12, 0)
/-- the last four bytes -/
def backL (b : List UInt8) : List UInt8 := b.drop (b.length - 4)
/-- the last frame -/
def lastL (b : List UInt8) : List UInt8 × Nat × Int :=
  if b.length < 12 then ([], 0, 5) else
  if 4000 < beVal (backL b) then ([], 0, 6) else
  if b.length < beVal (backL b) + 12 then ([], 0, 5) else
  if (b.drop (b.length - (beVal (backL b) + 12))).take 4 ≠ backL b then ([], 0, 6) else
  if (fOpen (b.drop (b.length - (beVal (backL b) + 12)))).2 ≠ 0 then ([], 0, (fOpen (b.drop (b.length - (beVal (backL b) + 12)))).2) else
  ((fOpen (b.drop (b.length - (beVal (backL b) + 12)))).1, beVal (backL b) + 12, 0)

theorem fOpen_frame (b : List UInt8) : fOpen (frameL b) = (b, 0) := by
  have h4 : (beBytes 4 b.length).length = 4 := beBytes_length _ _
  have hl := frameL_length b
  have e1 : (frameL b).take 4 = beBytes 4 b.length := by unfold frameL; rw [List.take_left' h4]
  have e2 : (frameL b).drop 4 = fSum b ++ (b ++ beBytes 4 b.length) := by unfold frameL; rw [List.drop_left' h4]
  have e3 : (frameL b).drop 8 = b ++ beBytes 4 b.length := by
    rw [show (8 : Nat) = 4 + 4 from rfl, ← List.drop_drop, e2, List.drop_left' (fSum_length b)]
  unfold fOpen
  rw [e1, e2, e3, hl, show b.length + 12 - 12 = b.length from by omega, List.take_left' rfl, List.take_left' (fSum_length b)]
  exact if_pos rfl

theorem first_frame (b r : List UInt8) (hb : b.length ≤ 4000) : firstL (frameL b ++ r) = (b, b.length + 12, 0) := by
  have h4 : (beBytes 4 b.length).length = 4 := beBytes_length _ _
  have hl := frameL_length b
  have hv : beVal (beBytes 4 b.length) = b.length := beVal_beBytes 4 _ (by omega)
  have e1 : (frameL b ++ r).take 4 = beBytes 4 b.length := by unfold frameL; rw [List.append_assoc, List.take_left' h4]
  have e2 : (frameL b ++ r).take (b.length + 12) = frameL b := by rw [List.take_left' hl]
  have e3 : (frameL b).drop (b.length + 8) = beBytes 4 b.length := by
    unfold frameL
    rw [← List.append_assoc, ← List.append_assoc, List.drop_left' (by simp only [List.length_append, h4, fSum_length]; omega)]
  unfold firstL
  rw [e1, hv, e2, e3, fOpen_frame, if_neg (by rw [List.length_append, hl]; omega), if_neg (by omega), if_neg (by rw [List.length_append, hl]; omega), if_neg (by simp), if_neg (by simp)]

theorem last_frame (b r : List UInt8) (hb : b.length ≤ 4000) : lastL (r ++ frameL b) = (b, b.length + 12, 0) := by
  have h4 : (beBytes 4 b.length).length = 4 := beBytes_length _ _
  have hl := frameL_length b
  have hv : beVal (beBytes 4 b.length) = b.length := beVal_beBytes 4 _ (by omega)
  have e1 : backL (r ++ frameL b) = beBytes 4 b.length := by
    unfold backL frameL
    rw [← List.append_assoc, ← List.append_assoc, ← List.append_assoc, List.drop_left' (by simp only [List.length_append, h4, fSum_length]; omega)]
  have e2 : (r ++ frameL b).drop ((r ++ frameL b).length - (b.length + 12)) = frameL b := by
    rw [List.drop_left' (by rw [List.length_append, hl]; omega)]
  have e3 : (frameL b).take 4 = beBytes 4 b.length := by unfold frameL; rw [List.take_left' h4]
  unfold lastL
  rw [e1, hv, e2, e3, fOpen_frame, if_neg (by rw [List.length_append, hl]; omega), if_neg (by omega), if_neg (by rw [List.length_append, hl]; omega), if_neg (by simp), if_neg (by simp)]

/-- bytes of which both lengths are alike, and the sum is right, are a frame -/
theorem frame_of (f : List UInt8) (n : Nat) (hn : n ≤ 4000) (hl : f.length = n + 12) (h1 : beVal (f.take 4) = n) (h2 : f.drop (n + 8) = f.take 4) (h3 : (fOpen f).2 = 0) :
    f = frameL (fOpen f).1 ∧ (fOpen f).1.length = n := by
  have hs : (f.drop 4).take 4 = beBytes 4 (crc (f.take 4 ++ (f.drop 8).take (f.length - 12))).toNat := by
    apply Classical.byContradiction
    intro h
    unfold fOpen at h3
    rw [if_neg h] at h3
    cases h3
  have ho : fOpen f = ((f.drop 8).take (f.length - 12), 0) := by unfold fOpen; rw [if_pos hs]
  have hl12 : f.length - 12 = n := by omega
  rw [hl12] at hs ho
  rw [ho]
  have hbl : ((f.drop 8).take n).length = n := by rw [List.length_take, List.length_drop]; omega
  have ht4 : f.take 4 = beBytes 4 n := by
    have h44 : (f.take 4).length = 4 := by rw [List.length_take]; omega
    have := beBytes_beVal (f.take 4)
    rw [h44, h1] at this
    exact this.symm
  refine ⟨?_, hbl⟩
  unfold frameL fSum
  rw [hbl]
  conv => lhs; rw [← List.take_append_drop 4 f]
  conv => lhs; rw [← List.take_append_drop 4 (f.drop 4)]
  rw [hs, List.drop_drop, ht4]
  congr 1
  congr 1
  conv => lhs; rw [← List.take_append_drop n (f.drop (4 + 4))]
  rw [List.drop_drop, show 4 + 4 + n = n + 8 from by omega, h2, ht4]

theorem first_ok {b x : List UInt8} {m : Nat} (h : firstL b = (x, m, 0)) : m = x.length + 12 ∧ x.length ≤ 4000 ∧ m ≤ b.length ∧ b.take m = frameL x := by
  unfold firstL at h
  split at h
  · cases (Prod.mk.inj (Prod.mk.inj h).2).2
  split at h
  · cases (Prod.mk.inj (Prod.mk.inj h).2).2
  split at h
  · cases (Prod.mk.inj (Prod.mk.inj h).2).2
  split at h
  · cases (Prod.mk.inj (Prod.mk.inj h).2).2
  split at h
  · rename_i hne
    exact absurd (Prod.mk.inj (Prod.mk.inj h).2).2 hne
  rename_i h1 h2 h3 h4 h5
  have h5' : (fOpen (b.take (beVal (b.take 4) + 12))).2 = 0 := Classical.byContradiction h5
  have h4' := Classical.byContradiction h4
  have hf := frame_of (b.take (beVal (b.take 4) + 12)) (beVal (b.take 4)) (by omega) (by rw [List.length_take]; omega) (by rw [List.take_take, Nat.min_eq_left (by omega)]) (by rw [h4', List.take_take, Nat.min_eq_left (by omega)]) h5'
  obtain ⟨hx, hm⟩ := Prod.mk.inj h
  have hm := (Prod.mk.inj hm).1
  rw [hx] at hf
  rw [← hm]
  exact ⟨by omega, by omega, by omega, hf.1⟩

theorem last_ok {b x : List UInt8} {m : Nat} (h : lastL b = (x, m, 0)) : m = x.length + 12 ∧ x.length ≤ 4000 ∧ m ≤ b.length ∧ b.drop (b.length - m) = frameL x := by
  unfold lastL at h
  split at h
  · cases (Prod.mk.inj (Prod.mk.inj h).2).2
  split at h
  · cases (Prod.mk.inj (Prod.mk.inj h).2).2
  split at h
  · cases (Prod.mk.inj (Prod.mk.inj h).2).2
  split at h
  · cases (Prod.mk.inj (Prod.mk.inj h).2).2
  split at h
  · rename_i hne
    exact absurd (Prod.mk.inj (Prod.mk.inj h).2).2 hne
  rename_i h1 h2 h3 h4 h5
  have h5' : (fOpen (b.drop (b.length - (beVal (backL b) + 12)))).2 = 0 := Classical.byContradiction h5
  have h4' := Classical.byContradiction h4
  have hf := frame_of (b.drop (b.length - (beVal (backL b) + 12))) (beVal (backL b)) (by omega) (by rw [List.length_drop]; omega) (by rw [h4'])
    (by rw [h4', List.drop_drop, show b.length - (beVal (backL b) + 12) + (beVal (backL b) + 8) = b.length - 4 from by omega]; rfl) h5'
  obtain ⟨hx, hm⟩ := Prod.mk.inj h
  have hm := (Prod.mk.inj hm).1
  rw [hx] at hf
  rw [← hm]
  exact ⟨by omega, by omega, by omega, hf.1⟩

/-- of a frame that is cut nothing is read -/
theorem first_cut (b r : List UInt8) (j : Nat) (hb : b.length ≤ 4000) (hj : j < b.length + 12) : firstL ((frameL b ++ r).take j) = ([], 0, 5) := by
  have h4 : (beBytes 4 b.length).length = 4 := beBytes_length _ _
  have hl := frameL_length b
  have hv : beVal (beBytes 4 b.length) = b.length := beVal_beBytes 4 _ (by omega)
  have hlen : ((frameL b ++ r).take j).length = j := by rw [List.length_take, List.length_append, hl]; omega
  unfold firstL
  by_cases hs : j < 12
  · rw [if_pos (by omega)]
  · have e1 : ((frameL b ++ r).take j).take 4 = beBytes 4 b.length := by
      rw [List.take_take, Nat.min_eq_left (by omega)]; unfold frameL; rw [List.append_assoc, List.take_left' h4]
    rw [if_neg (by omega), e1, hv, if_neg (by omega), if_pos (by omega)]
theorem first_nil : firstL [] = ([], 0, 5) := by unfold firstL; rw [if_pos (by simp)]
theorem last_nil : lastL [] = ([], 0, 5) := by unfold lastL; rw [if_pos (by simp)]

/-- all frames, one behind the other, with fuel -/
def allL : Nat → List UInt8 → List (List UInt8) × Nat
  | 0, _ => ([], 0)
  | k + 1, b => if (firstL b).2.2 = 0 then ((firstL b).1 :: (allL k (b.drop (firstL b).2.1)).1, (firstL b).2.1 + (allL k (b.drop (firstL b).2.1)).2) else ([], 0)
theorem allL_fuel (b : List UInt8) : ∀ k m, b.length < k → b.length < m → allL k b = allL m b := by
  intro k
  induction k generalizing b with
  | zero => intro m h; omega
  | succ k ih =>
    intro m hk hm
    cases m with
    | zero => omega
    | succ m =>
      simp only [allL]
      by_cases h : (firstL b).2.2 = 0
      · have ho := first_ok (b := b) (x := (firstL b).1) (m := (firstL b).2.1) (by rw [← h])
        have hd : (b.drop (firstL b).2.1).length < b.length := by rw [List.length_drop]; omega
        rw [if_pos h, if_pos h, ih _ m (by omega) (by omega)]
      · rw [if_neg h, if_neg h]
/-- all frames -/
def framesL (b : List UInt8) : List (List UInt8) × Nat := allL (b.length + 1) b
theorem framesL_step (b x : List UInt8) (m : Nat) (h : firstL b = (x, m, 0)) : framesL b = (x :: (framesL (b.drop m)).1, m + (framesL (b.drop m)).2) := by
  have ho := first_ok h
  unfold framesL
  conv => lhs; unfold allL
  rw [h]
  simp only [if_true]
  rw [allL_fuel (b.drop m) b.length ((b.drop m).length + 1) (by rw [List.length_drop]; omega) (by omega)]
theorem framesL_stop (b : List UInt8) (h : (firstL b).2.2 ≠ 0) : framesL b = ([], 0) := by
  unfold framesL allL
  rw [if_neg h]
/-- the frames of bodies, one behind the other -/
def layAll (l : List (List UInt8)) : List UInt8 := (l.map frameL).flatten
theorem layAll_cons (b : List UInt8) (l : List (List UInt8)) : layAll (b :: l) = frameL b ++ layAll l := by simp [layAll]
theorem layAll_append (l m : List (List UInt8)) : layAll (l ++ m) = layAll l ++ layAll m := by simp [layAll]
theorem framesL_join (l : List (List UInt8)) (more : List UInt8) (h : ∀ b ∈ l, b.length ≤ 4000) : framesL (layAll l ++ more) = (l ++ (framesL more).1, (layAll l).length + (framesL more).2) := by
  induction l with
  | nil => simp [layAll]
  | cons b l ih =>
    have hb := h b (by simp)
    rw [layAll_cons, List.append_assoc, framesL_step _ b (b.length + 12) (first_frame b _ hb), List.drop_left' (frameL_length b), ih (fun x hx => h x (by simp [hx]))]
    simp only [List.cons_append, List.length_append, frameL_length, Nat.add_assoc]
/-- where the frames end -/
def endsL (l : List (List UInt8)) (n : Nat) : Nat := (layAll (l.take n)).length
/-- of frames of which some first bytes are kept: those that are there whole -/
theorem framesL_kept (l : List (List UInt8)) (k n : Nat) (h : ∀ b ∈ l, b.length ≤ 4000) (hn : n ≤ l.length) (h1 : endsL l n ≤ k) (h2 : n < l.length → k < endsL l (n + 1)) (hk : k ≤ (layAll l).length) :
    framesL ((layAll l).take k) = (l.take n, endsL l n) := by
  have hsplit : layAll l = layAll (l.take n) ++ layAll (l.drop n) := by rw [← layAll_append, List.take_append_drop]
  have hk' : (layAll l).take k = layAll (l.take n) ++ (layAll (l.drop n)).take (k - endsL l n) := by
    conv => lhs; rw [hsplit]
    rw [List.take_append, List.take_of_length_le h1]
    rfl
  rw [hk', framesL_join _ _ (fun b hb => h b (List.mem_of_mem_take hb))]
  have hz : framesL ((layAll (l.drop n)).take (k - endsL l n)) = ([], 0) := by
    apply framesL_stop
    by_cases hlt : n < l.length
    · have hd : l.drop n = l[n] :: l.drop (n + 1) := List.drop_eq_getElem_cons hlt
      have he : endsL l (n + 1) = endsL l n + (l[n].length + 12) := by
        unfold endsL
        rw [List.take_succ_eq_append_getElem hlt, layAll_append, List.length_append]
        congr 1
        rw [layAll_cons, show layAll [] = [] from rfl, List.append_nil, frameL_length]
      rw [hd, layAll_cons, first_cut _ _ _ (h _ (List.getElem_mem hlt)) (by have := h2 hlt; omega)]
      decide
    · rw [List.drop_of_length_le (by omega)]
      simp [layAll, first_nil]
  rw [hz]
  simp [endsL]
theorem allL_few (k : Nat) (b : List UInt8) : (allL k b).1.length ≤ b.length ∧ (allL k b).2 ≤ b.length := by
  induction k generalizing b with
  | zero => simp [allL]
  | succ k ih =>
    unfold allL
    by_cases h : (firstL b).2.2 = 0
    · rw [if_pos h]
      have ho := first_ok (b := b) (x := (firstL b).1) (m := (firstL b).2.1) (by rw [← h])
      have h1 := ih (b.drop (firstL b).2.1)
      rw [List.length_drop] at h1
      simp only [List.length_cons]
      omega
    · rw [if_neg h]; simp
theorem framesL_few (b : List UInt8) : (framesL b).1.length ≤ b.length := (allL_few _ b).1
theorem framesL_at (b : List UInt8) : (framesL b).2 ≤ b.length := (allL_few _ b).2
end Go.Proofs.Ytfjilngofdahgaa
