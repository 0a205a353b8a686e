/- Two nets side by side: the program's and the document's. -/
import Derived.Test.YtadhboioaacaeaaLight
namespace Go.Proofs.Ytadhboioaacaeaa
open Go.RowKit
set_option maxHeartbeats 2000000
set_option maxRecDepth 100000
set_option linter.unusedVariables false

/-- the program's net at g and the document's at gr, in new blocks that they do not share; the blocks of Av are neither's -/
def Two (W w : World) (Av : Nat → Prop) (g gr : Nat) (ps qs : List Pk) (cs : List (Int × Int)) (C : Int → Int → Bool) (k : Nat) : Prop :=
  ∃ Sn Sr, NetIs w Sn g ps k C ∧ RefIs w Sr gr qs cs ∧ (∀ b, Sn b → W.heap.size ≤ b ∧ b < w.heap.size) ∧ (∀ b, Sr b → W.heap.size ≤ b ∧ b < w.heap.size) ∧ (∀ b, Sn b → ¬ Sr b) ∧ (∀ b, Av b → ¬ Sn b ∧ ¬ Sr b ∧ b < w.heap.size) ∧ Below W.heap.size W w

section
variable {W w w' : World} {Av : Nat → Prop} {g gr k k' : Nat} {ps qs ps' qs' : List Pk} {cs cs' : List (Int × Int)} {C C' : Int → Int → Bool}
theorem Two.bel (h : Two W w Av g gr ps qs cs C k) : Below W.heap.size W w := by obtain ⟨_, _, _, _, _, _, _, _, hb⟩ := h; exact hb
theorem Two.net (h : Two W w Av g gr ps qs cs C k) : ∃ S, NetIs w S g ps k C ∧ (∀ b, Av b → ¬ S b) ∧ ∀ w' ps' k' C', NetStep S g w w' ps' k' C' → Two W w' Av g gr ps' qs cs C' k' ∧ ∀ b, Av b → w'.heap[b]? = w.heap[b]? := by
  obtain ⟨Sn, Sr, hn, hr, ln, lr, hd, ha, hb⟩ := h
  refine ⟨Sn, hn, fun b hb => (ha b hb).1, fun w' ps' k' C' hs => ?_⟩
  obtain ⟨S', n1, c1, e1⟩ := hs
  refine ⟨⟨_, Sr, n1.shrink, hr.chg c1 (fun b _ hs hn => hd b hn hs), fun b hb' => ⟨?_, hb'.2⟩, fun b hs => ⟨(lr b hs).1, Nat.lt_of_lt_of_le (lr b hs).2 c1.size⟩, fun b hb' hs => ?_, fun b hav => ⟨fun hb' => ?_, (ha b hav).2.1, Nat.lt_of_lt_of_le (ha b hav).2.2 c1.size⟩, hb.trans (c1.below (fun b hs => (ln b hs).1) hb.size)⟩, fun b hav => c1.block b (ha b hav).2.2 (ha b hav).1⟩
  · rcases e1 b hb'.1 with h1 | h1
    · exact (ln b h1).1
    · exact Nat.le_trans hb.size h1
  · rcases e1 b hb'.1 with h1 | h1
    · exact hd b h1 hs
    · exact Nat.lt_irrefl _ (Nat.lt_of_lt_of_le (lr b hs).2 h1)
  · rcases e1 b hb'.1 with h1 | h1
    · exact (ha b hav).1 h1
    · exact Nat.lt_irrefl _ (Nat.lt_of_lt_of_le (ha b hav).2.2 h1)
theorem Two.ref (h : Two W w Av g gr ps qs cs C k) : ∃ S, RefIs w S gr qs cs ∧ (∀ b, Av b → ¬ S b) ∧ ∀ w' qs' cs', RefStep S gr w w' qs' cs' → Two W w' Av g gr ps qs' cs' C k ∧ ∀ b, Av b → w'.heap[b]? = w.heap[b]? := by
  obtain ⟨Sn, Sr, hn, hr, ln, lr, hd, ha, hb⟩ := h
  refine ⟨Sr, hr, fun b hb => (ha b hb).2.1, fun w' qs' cs' hs => ?_⟩
  obtain ⟨S', n1, c1, e1⟩ := hs
  refine ⟨⟨Sn, _, hn.chg c1 (fun b _ hs hr => hd b hs hr), n1.shrink, fun b hs => ⟨(ln b hs).1, Nat.lt_of_lt_of_le (ln b hs).2 c1.size⟩, fun b hb' => ⟨?_, hb'.2⟩, fun b hs hb' => ?_, fun b hav => ⟨(ha b hav).1, fun hb' => ?_, Nat.lt_of_lt_of_le (ha b hav).2.2 c1.size⟩, hb.trans (c1.below (fun b hs => (lr b hs).1) hb.size)⟩, fun b hav => c1.block b (ha b hav).2.2 (ha b hav).2.1⟩
  · rcases e1 b hb'.1 with h1 | h1
    · exact (lr b h1).1
    · exact Nat.le_trans hb.size h1
  · rcases e1 b hb'.1 with h1 | h1
    · exact hd b hs h1
    · exact Nat.lt_irrefl _ (Nat.lt_of_lt_of_le (ln b hs).2 h1)
  · rcases e1 b hb'.1 with h1 | h1
    · exact (ha b hav).2.1 h1
    · exact Nat.lt_irrefl _ (Nat.lt_of_lt_of_le (ha b hav).2.2 h1)
theorem Two.under (h : Two W w Av g gr ps qs cs C k) (hb : Below w.heap.size w w') : Two W w' Av g gr ps qs cs C k := by
  obtain ⟨Sn, Sr, hn, hr, ln, lr, hd, ha, hbw⟩ := h
  exact ⟨Sn, Sr, hn.below hb, hr.below hb, fun b hs => ⟨(ln b hs).1, Nat.lt_of_lt_of_le (ln b hs).2 hb.size⟩, fun b hs => ⟨(lr b hs).1, Nat.lt_of_lt_of_le (lr b hs).2 hb.size⟩, hd, fun b hav => ⟨(ha b hav).1, (ha b hav).2.1, Nat.lt_of_lt_of_le (ha b hav).2.2 hb.size⟩, hbw.trans (hb.mono hbw.size)⟩
theorem Two.alloc (h : Two W w Av g gr ps qs cs C k) (o : Obj) : Two W (w.alloc o) Av g gr ps qs cs C k := h.under ((Below.refl _ _).alloc (Nat.le_refl _) o)
theorem Two.drewN (h : Two W w Av g gr ps qs cs C k) (n : Nat) : Two W (w.drewN n) Av g gr ps qs cs C k := h.under (below_drewN (Below.refl _ _) n)
/-- blocks made behind w are neither's -/
theorem Two.avoid (h : Two W w Av g gr ps qs cs C k) (hb : Below w.heap.size w w') (Bv : Nat → Prop) (hB : ∀ b, Bv b → (Av b ∨ w.heap.size ≤ b) ∧ b < w'.heap.size) : Two W w' Bv g gr ps qs cs C k := by
  obtain ⟨Sn, Sr, hn, hr, ln, lr, hd, ha, hbw⟩ := h.under hb
  obtain ⟨Sn0, Sr0, hn0, hr0, ln0, lr0, hd0, ha0, hbw0⟩ := h
  refine ⟨Sn0, Sr0, hn0.below hb, hr0.below hb, fun b hs => ⟨(ln0 b hs).1, Nat.lt_of_lt_of_le (ln0 b hs).2 hb.size⟩, fun b hs => ⟨(lr0 b hs).1, Nat.lt_of_lt_of_le (lr0 b hs).2 hb.size⟩, hd0, fun b hbv => ⟨fun hs => ?_, fun hs => ?_, (hB b hbv).2⟩, hbw⟩
  · rcases (hB b hbv).1 with h1 | h1
    · exact (ha0 b h1).1 hs
    · exact Nat.lt_irrefl _ (Nat.lt_of_lt_of_le (ln0 b hs).2 h1)
  · rcases (hB b hbv).1 with h1 | h1
    · exact (ha0 b h1).2.1 hs
    · exact Nat.lt_irrefl _ (Nat.lt_of_lt_of_le (lr0 b hs).2 h1)
theorem blk_kept {t : TypeId} {cells : Array Value} {b : Nat} (h : BlkIs w b t cells) (hk : w'.heap[b]? = w.heap[b]?) : BlkIs w' b t cells := hk.trans h
theorem own_kept {base n size : Nat} {e : TypeId} {v : Value} {xs : List Value} (h : w.ownsRow base e size v n xs) (hk : ∀ b, v.ownBlock = some b → w'.heap[b]? = w.heap[b]?) : w'.ownsRow base e size v n xs := by
  refine ⟨h.1, ?_⟩
  rcases h.2 with h0 | ⟨g', cap, cur, hv, hb, hh, rest⟩
  · exact .inl h0
  · exact .inr ⟨g', cap, cur, hv, hb, (hk g' (by rw [hv]; rfl)).trans hh, rest⟩
end

/-- do both say the same of every two ends? -/
def Agree (C : Int → Int → Bool) (cs : List (Int × Int)) : Prop := ∀ x y, C (min x y) (max x y) = cutB cs x y
theorem agree_none : Agree (fun _ _ => false) [] := fun x y => rfl
theorem minmax_eq (x y a b : Int) : (min x y = min a b ∧ max x y = max a b) ↔ ((x = a ∧ y = b) ∨ (x = b ∧ y = a)) := by omega
theorem agree_cut {C : Int → Int → Bool} {cs : List (Int × Int)} (h : Agree C cs) (a b : Int) (on : Bool) : Agree (cutC C a b on) (rcutL cs a b on) := by
  intro x y
  have hrc : cutB (rcL cs a b) x y = if (x = a ∧ y = b) ∨ (x = b ∧ y = a) then false else cutB cs x y := by
    unfold cutB rcL
    rw [List.any_filter]
    by_cases e : (x = a ∧ y = b) ∨ (x = b ∧ y = a)
    · rw [if_pos e, List.any_eq_false]
      rintro ⟨u, v⟩ _
      simp only [Prod.mk.injEq]
      rcases e with ⟨rfl, rfl⟩ | ⟨rfl, rfl⟩ <;> simp <;> omega
    · rw [if_neg e]
      congr 1
      funext c
      obtain ⟨u, v⟩ := c
      simp only [Prod.mk.injEq]
      rw [Bool.eq_iff_iff]
      simp
      omega
  unfold cutC rcutL
  by_cases e : (x = a ∧ y = b) ∨ (x = b ∧ y = a)
  · rw [if_pos ((minmax_eq x y a b).2 e)]
    rw [if_pos e] at hrc
    cases on with
    | false => simp [hrc]
    | true =>
      rw [if_pos rfl]
      unfold cutB at hrc ⊢
      rw [List.any_append, hrc]
      rcases e with ⟨rfl, rfl⟩ | ⟨rfl, rfl⟩ <;> simp
  · rw [if_neg (fun h => e ((minmax_eq x y a b).1 h)), h x y]
    rw [if_neg e] at hrc
    cases on with
    | false => rw [if_neg (by decide), hrc]
    | true =>
      rw [if_pos rfl]
      unfold cutB at hrc ⊢
      rw [List.any_append, hrc]
      simp
      intro h
      exfalso
      omega
theorem agree_put {C : Int → Int → Bool} {cs : List (Int × Int)} (h : Agree C cs) (ps : List Pk) (p : Pk) : rsB cs ps p = putB C ps p ∧ rsL cs ps p = putL C ps p := by
  have e : rsB cs ps p = putB C ps p := by unfold rsB putB; rw [h p.1 p.2.1]
  exact ⟨e, by unfold rsL putL; rw [e]⟩
theorem putL_len (C : Int → Int → Bool) (ps : List Pk) (p : Pk) (h : ps.length ≤ 2000) : (putL C ps p).length ≤ 2000 := by
  unfold putL
  split
  · rename_i h1
    unfold putB at h1
    simp at h1
    rw [List.length_append]; simp; omega
  · exact h
theorem sendS_len (C : Int → Int → Bool) (ps l : List Pk) (h : ps.length ≤ 2000) : (sendS C ps l).1.length ≤ 2000 := by
  unfold sendS
  suffices hh : ∀ (l : List Pk) (q : List Pk × Nat), q.1.length ≤ 2000 → (l.foldl (fun q p => (putL C q.1 p, q.2 + (putB C q.1 p).toNat)) q).1.length ≤ 2000 from hh l (ps, 0) h
  intro l
  induction l with
  | nil => intro q hq; exact hq
  | cons p l ih => intro q hq; rw [List.foldl_cons]; exact ih _ (putL_len C q.1 p hq)
theorem dblP_len (ps : List Pk) (j : Int) (h : ps.length ≤ 2000) : (dblP ps j).length ≤ 2000 := by
  unfold dblP
  split
  · rename_i h1
    unfold dblB at h1
    simp at h1
    rw [List.length_append]; simp; omega
  · exact h
theorem swpP_len (ps : List Pk) (j i : Int) : (swpP ps j i).length = ps.length := by unfold swpP; split <;> simp
theorem dropP_len (ps : List Pk) (j : Int) : (dropP ps j).length ≤ ps.length := by
  unfold dropP
  split
  · rw [List.length_append, List.length_take, List.length_drop]; omega
  · exact Nat.le_refl _
/-- packets that fill the net -/
theorem sendS_fill (C : Int → Int → Bool) (ps : List Pk) (n : Nat) (p : Pk) (hC : C (min p.1 p.2.1) (max p.1 p.2.1) = false) : (sendS C ps (List.replicate n p)).2 = min n (2000 - ps.length) ∧ (sendS C ps (List.replicate n p)).1.length = ps.length + min n (2000 - ps.length) := by
  induction n with
  | zero => simp [sendS]
  | succ n ih =>
    obtain ⟨i1, i2⟩ := ih
    rw [List.replicate_succ', sendS_snoc]
    by_cases hl : (sendS C ps (List.replicate n p)).1.length < 2000
    · have hb : putB C (sendS C ps (List.replicate n p)).1 p = true := by unfold putB; rw [hC]; simpa using hl
      simp only [putL, hb, if_true, List.length_append, List.length_singleton, Bool.toNat_true]
      omega
    · have hb : putB C (sendS C ps (List.replicate n p)).1 p = false := by unfold putB; rw [hC]; simpa using hl
      simp only [putL, hb, Bool.toNat_false]
      constructor
      · omega
      · simp; omega
end Go.Proofs.Ytadhboioaacaeaa
