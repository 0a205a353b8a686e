/- chapter 14: levels made longer, a level set anew: laws. -/
import Derived.Test.YtfjilngofdahgaaIx
namespace Go.Proofs.Ytfjilngofdahgaa
open Go.RowKit
set_option maxHeartbeats 1000000
set_option maxRecDepth 100000
set_option linter.unusedVariables false

theorem blk_two {w : World} {a b : Nat} {t t' : TypeId} {cs cs' : Array Value} (h : BlkIs w a t cs) (h' : BlkIs w b t' cs') (hne : t ≠ t') : a ≠ b := by
  rintro rfl
  unfold BlkIs at h h'
  rw [h] at h'
  injection h' with h'
  injection h' with _ h3
  exact hne h3
section
variable {w w1 w2 : World} {S : Nat → Prop} {g T : Nat} {room most : Int} {mem : Tb} {lv : List Lv} {r : Option Nat} {v : Value} {vs : List Value}
theorem IxAt.dTg (h : IxAt w S g room most (mem, lv) T r v vs) : T ≠ g := by
  obtain ⟨vt, k1, _⟩ := h.tab
  exact blk_two k1 h.blk (by decide)
theorem IxAt.drg (h : IxAt w S g room most (mem, lv) T r v vs) : r ≠ some g := by
  obtain ⟨vt, k1, k2, k3, _⟩ := h.tab
  rw [← k3]
  exact own_ne_blk k2 h.blk (by decide)
theorem IxAt.dvg (h : IxAt w S g room most (mem, lv) T r v vs) : v.ownBlock ≠ some g := own_ne_blk h.row h.blk (by decide)
theorem IxAt.dvT (h : IxAt w S g room most (mem, lv) T r v vs) : v.ownBlock ≠ some T := by
  obtain ⟨vt, k1, _⟩ := h.tab
  exact own_ne_blk h.row k1 (by decide)
theorem IxAt.dvr (h : IxAt w S g room most (mem, lv) T r v vs) {b : Nat} (hb : v.ownBlock = some b) : r ≠ some b := by
  obtain ⟨vt, k1, k2, k3, _⟩ := h.tab
  rw [← k3]
  exact own_type h.row k2 (by decide) hb
theorem LvIs.dblk {t : TypeId} {cs : Array Value} {x : Value} {l : Lv} {b : Nat} (h : LvIs w S r x l) (hb : BlkIs w b t cs) (hne : 32 ≠ t) : x.ownBlock ≠ some b := by
  obtain ⟨us, ho, _⟩ := h
  exact own_ne_blk ho hb hne
theorem LvIs.down {x y : Value} {l : Lv} {b base n c : Nat} {e : TypeId} {xs : List Value} (h : LvIs w S r x l) (hy : w.ownsRow base e c y n xs) (hne : 32 ≠ e) (hb : x.ownBlock = some b) : y.ownBlock ≠ some b := by
  obtain ⟨us, ho, _⟩ := h
  exact own_type ho hy hne hb
theorem LvIs.more {S' : Nat → Prop} {x : Value} {l : Lv} (h : LvIs w S r x l) (hS : ∀ b, S b → S' b) : LvIs w S' r x l := by
  obtain ⟨us, ho, hu⟩ := h
  exact ⟨us, ho, fun j u t h1 h2 => ⟨(hu j u t h1 h2).1, fun b hb => ⟨hS b ((hu j u t h1 h2).2 b hb).1, ((hu j u t h1 h2).2 b hb).2⟩⟩⟩
/-- a level under a change of a level's row, of the row of levels, of g -/
theorem LvIs.keep {x : Value} {l : Lv} {C : Nat → Prop} (h : LvIs w S r x l) (hc : Chg C w w2) (hx : ∀ b, x.ownBlock = some b → ¬ C b)
    (hC : ∀ b, C b → (∃ t cs, BlkIs w b t cs ∧ 27 ≠ t) ∨ (∃ y e c n xs, w.ownsRow 0 e c y n xs ∧ 27 ≠ e ∧ y.ownBlock = some b)) : LvIs w2 S r x l := by
  obtain ⟨us, ho, hu⟩ := h
  refine ⟨us, own_chg ho hc hx, fun j u t h1 h2 => ?_⟩
  obtain ⟨h3, h4⟩ := hu j u t h1 h2
  refine ⟨own_chg h3 hc (fun b hb hCb => ?_), h4⟩
  rcases hC b hCb with ⟨t', cs, k1, k2⟩ | ⟨y, e, c, n, xs, k1, k2, k3⟩
  · exact own_ne_blk h3 k1 k2 hb
  · exact own_type h3 k1 k2 hb k3
theorem LvIs.none (w : World) (S : Nat → Prop) (r : Option Nat) : LvIs w S r (.slice none 0 0) [] := ⟨[], World.ownsRow_nil _ _ _ _, fun j u t h => by simp at h⟩

theorem IxAt.ext (h : IxAt w S g room most (mem, lv) T r v vs) (hb : Below w.heap.size w w1) (v2 : Value) (ho : w2.ownsRow 0 57 1 v2 (lv.length + 1) (vs ++ [.slice none 0 0])) (hg : w1.grownBy w2 v.ownBlock)
    (hat : ∀ b, v2.ownBlock = some b → v.ownBlock = some b ∨ w.heap.size ≤ b) :
    IxAt (w2.setCell ⟨g, 3, none⟩ v2) (fun b => S b ∨ v2.ownBlock = some b) g room most (mem, lv ++ [[]]) T r v2 (vs ++ [.slice none 0 0]) ∧ Chg S w (w2.setCell ⟨g, 3, none⟩ v2) := by
  have hc : Chg (fun b => b = g ∨ v.ownBlock = some b) w (w2.setCell ⟨g, 3, none⟩ v2) := ((Chg.of_below hb).grown hg (fun k hk _ => .inr hk)).set (a := ⟨g, 3, none⟩) (fun _ => .inl rfl) v2
  have hvl : vs.length = lv.length := by have := h.row.1; simpa using this
  have hblk2 : BlkIs w2 g 55 _ := (h.blk.below hb h.blk.lt).grown hg (fun e => h.dvg e.symm)
  have hC : ∀ b, (b = g ∨ v.ownBlock = some b) → (∃ t cs, BlkIs w b t cs ∧ 27 ≠ t) ∨ (∃ y e c n xs, w.ownsRow 0 e c y n xs ∧ 27 ≠ e ∧ y.ownBlock = some b) := fun b hb => by
    rcases hb with rfl | hb
    · exact .inl ⟨_, _, h.blk, by decide⟩
    · exact .inr ⟨_, _, _, _, _, h.row, by decide, hb⟩
  have hsz := hc.size
  refine ⟨⟨hblk2.put 3 v2, h.tab.chg hc (fun e => ?_) (fun b hb e => ?_), ?_, fun i v' l h1 h2 => ?_, fun i j v1 v2' b h1 h2 h3 h4 => ?_, .inl h.sg, .inl h.sT, fun b hb => .inl (h.sr b hb), fun b hb => .inr hb, fun b hb => ?_⟩, hc.more (fun k _ hk => ?_)⟩
  · rcases e with e | e
    · exact h.dTg e
    · exact h.dvT e
  · rcases e with e | e
    · subst e; exact h.drg hb
    · exact h.dvr e hb
  · have e0 : (lv ++ [[]]).length = lv.length + 1 := by simp
    show World.ownsRow _ _ _ _ _ (lv ++ [[]]).length _
    rw [e0]
    exact own_far (a := ⟨g, 3, none⟩) ho (own_ne_blk ho hblk2 (by decide)) v2
  · dsimp only at h2
    rcases Nat.lt_or_ge i lv.length with hi | hi
    · rw [List.getElem?_append_left (by omega)] at h1
      rw [List.getElem?_append_left hi] at h2
      obtain ⟨k1, k2⟩ := h.lev i v' l h1 h2
      refine ⟨(k1.keep hc (fun b hb e => ?_) hC).more (fun b hb => .inl hb), fun b hb => .inl (k2 b hb)⟩
      rcases e with e | e
      · subst e; exact k1.dblk h.blk (by decide) hb
      · exact k1.down h.row (by decide) hb e
    · rw [List.getElem?_append_right (by omega)] at h1
      rw [List.getElem?_append_right hi] at h2
      have e1 : v' = .slice none 0 0 := by
        rcases Nat.eq_zero_or_pos (i - vs.length) with h0 | h0
        · rw [h0] at h1; simpa using h1.symm
        · rw [List.getElem?_eq_none (by simp; omega)] at h1; cases h1
      have e2 : l = [] := by
        rcases Nat.eq_zero_or_pos (i - lv.length) with h0 | h0
        · rw [h0] at h2; simpa using h2.symm
        · rw [List.getElem?_eq_none (by simp; omega)] at h2; cases h2
      subst e1 e2
      exact ⟨LvIs.none _ _ _, fun b hb => by cases hb⟩
  · have key : ∀ (i : Nat) (x : Value) (b : Nat), (vs ++ [Value.slice none 0 0])[i]? = some x → x.ownBlock = some b → vs[i]? = some x := fun i x b h1 h3 => by
      rcases Nat.lt_or_ge i vs.length with hi | hi
      · rwa [List.getElem?_append_left hi] at h1
      · rw [List.getElem?_append_right hi] at h1
        rcases Nat.eq_zero_or_pos (i - vs.length) with h0 | h0
        · rw [h0] at h1
          have : x = .slice none 0 0 := by simpa using h1.symm
          subst this; cases h3
        · rw [List.getElem?_eq_none (by simp; omega)] at h1; cases h1
    exact h.two i j v1 v2' b (key i v1 b h1 h3) (key j v2' b h2 h4) h3 h4
  · rcases hb with hb | hb
    · exact Nat.lt_of_lt_of_le (h.lt b hb) hsz
    · have := (ho.lt b hb).2
      simpa [World.setCell] using this
  · rcases hk with rfl | hk
    · exact h.sg
    · exact h.sv k hk

theorem IxAt.level {o c k : Nat} {vk : Value} (h : IxAt w S g room most (mem, lv) T r (.slice (some ⟨o, 0, none⟩) lv.length c) vs) (hv : vs[k]? = some vk) (hc0 : Chg (fun b => vk.ownBlock = some b) w w2) (S4 : Nat → Prop) (hS4 : ∀ b, S b → S4 b) (hlt : ∀ b, S4 b → b < w2.heap.size)
    (v4 : Value) (l4 : Lv) (hL : LvIs w2 S4 r v4 l4) (hs4 : ∀ b, v4.ownBlock = some b → S4 b) (hd : ∀ b, v4.ownBlock = some b → vk.ownBlock = some b ∨ w.heap.size ≤ b) :
    IxAt (w2.setCell ⟨o, k, none⟩ v4) S4 g room most (mem, lv.set k l4) T r (.slice (some ⟨o, 0, none⟩) lv.length c) (vs.set k v4) ∧ Chg S w (w2.setCell ⟨o, k, none⟩ v4) := by
  have hvl : vs.length = lv.length := by have := h.row.1; simpa using this
  have hk : k < lv.length := by rw [← hvl]; exact (List.getElem?_eq_some_iff.1 hv).1
  obtain ⟨hL0, hsk⟩ := h.lev k vk _ hv (List.getElem?_eq_getElem hk)
  have hob : (Value.slice (some ⟨o, 0, none⟩) lv.length c).ownBlock = some o := rfl
  have hc : Chg (fun b => b = o ∨ vk.ownBlock = some b) w (w2.setCell ⟨o, k, none⟩ v4) := Chg.set (S := fun b => b = o ∨ vk.ownBlock = some b) (hc0.more (fun k _ hk => Or.inr hk)) (a := ⟨o, k, none⟩) (fun _ => .inl rfl) v4
  have hC : ∀ b, (b = o ∨ vk.ownBlock = some b) → (∃ t cs, BlkIs w b t cs ∧ 27 ≠ t) ∨ (∃ y e c n xs, w.ownsRow 0 e c y n xs ∧ 27 ≠ e ∧ y.ownBlock = some b) := fun b hb => by
    rcases hb with rfl | hb
    · exact .inr ⟨_, _, _, _, _, h.row, by decide, hob⟩
    · obtain ⟨us, ho, _⟩ := hL0
      exact .inr ⟨_, _, _, _, _, ho, by decide, hb⟩
  have hrow2 : w2.ownsRow 0 57 1 (.slice (some ⟨o, 0, none⟩) lv.length c) lv.length vs := own_chg h.row hc0 (fun b hb e => hL0.down h.row (by decide) e hb)
  have hsz := hc.size
  have hgo : g ≠ o := fun e => h.dvg (by rw [e]; exact hob)
  have hkg : vk.ownBlock ≠ some g := hL0.dblk h.blk (by decide)
  refine ⟨⟨h.blk.chg hc (fun e => ?_), h.tab.chg hc (fun e => ?_) (fun b hb e => ?_), ?_, fun i v' l h1 h2 => ?_, fun i j v1 v2' b h1 h2 h3 h4 => ?_, hS4 _ h.sg, hS4 _ h.sT, fun b hb => hS4 _ (h.sr b hb), fun b hb => hS4 _ (h.sv b hb), fun b hb => Nat.lt_of_lt_of_le (hlt b hb) (by simp [World.setCell])⟩, hc.more (fun k _ hk => ?_)⟩
  · rcases e with e | e
    · exact hgo e
    · exact hkg e
  · rcases e with e | e
    · exact h.dvT (by rw [e]; exact hob)
    · obtain ⟨vt, k1, _⟩ := h.tab
      exact hL0.dblk k1 (by decide) e
  · rcases e with e | e
    · subst e; exact h.dvr hob hb
    · obtain ⟨vt, k1, k2, k3, _⟩ := h.tab
      exact hL0.down k2 (by decide) e (k3.trans hb)
  · have e0 : (lv.set k l4).length = lv.length := by simp
    show World.ownsRow _ _ _ _ _ (lv.set k l4).length _
    rw [e0]
    exact (hrow2.stored k v4).1
  · dsimp only at h2
    by_cases hik : i = k
    · subst hik
      rw [List.getElem?_set_self (by omega)] at h1 h2
      injection h1 with h1; injection h2 with h2
      subst h1 h2
      obtain ⟨us, ho, hu⟩ := hL
      refine ⟨⟨us, own_far (a := ⟨o, i, none⟩) ho (fun e => own_type ho hrow2 (by decide) e hob) v4, fun j u t k1 k2 => ?_⟩, hs4⟩
      obtain ⟨k3, k4⟩ := hu j u t k1 k2
      exact ⟨own_far (a := ⟨o, i, none⟩) k3 (fun e => own_type k3 hrow2 (by decide) e hob) v4, k4⟩
    · rw [List.getElem?_set_ne (fun e => hik e.symm)] at h1 h2
      obtain ⟨k1, k2⟩ := h.lev i v' l h1 h2
      refine ⟨(k1.keep hc (fun b hb e => ?_) hC).more hS4, fun b hb => hS4 b (k2 b hb)⟩
      rcases e with e | e
      · subst e; exact k1.down h.row (by decide) hb hob
      · exact hik (h.two i k v' vk b h1 hv hb e)
  · by_cases hik : i = k
    · by_cases hjk : j = k
      · rw [hik, hjk]
      · subst hik
        rw [List.getElem?_set_self (by omega)] at h1
        rw [List.getElem?_set_ne (fun e => hjk e.symm)] at h2
        injection h1 with h1
        subst h1
        rcases hd b h3 with h5 | h5
        · exact h.two i j vk v2' b hv h2 h5 h4
        · have := h.lt b ((h.lev j v2' _ h2 (List.getElem?_eq_getElem (by rw [← hvl]; exact (List.getElem?_eq_some_iff.1 h2).1))).2 b h4)
          omega
    · by_cases hjk : j = k
      · subst hjk
        rw [List.getElem?_set_self (by omega)] at h2
        rw [List.getElem?_set_ne (fun e => hik e.symm)] at h1
        injection h2 with h2
        subst h2
        rcases hd b h4 with h5 | h5
        · exact h.two i j v1 vk b h1 hv h3 h5
        · have := h.lt b ((h.lev i v1 _ h1 (List.getElem?_eq_getElem (by rw [← hvl]; exact (List.getElem?_eq_some_iff.1 h1).1))).2 b h3)
          omega
      · rw [List.getElem?_set_ne (fun e => hik e.symm)] at h1
        rw [List.getElem?_set_ne (fun e => hjk e.symm)] at h2
        exact h.two i j v1 v2' b h1 h2 h3 h4
  · rcases hk with rfl | hk
    · exact h.sv _ hob
    · exact hsk k hk
end
end Go.Proofs.Ytfjilngofdahgaa
