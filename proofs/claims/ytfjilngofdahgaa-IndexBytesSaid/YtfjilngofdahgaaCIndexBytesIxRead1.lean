/- chapter 14: table, walked; a level more behind all; what is read, plainly. -/
import Derived.Test.YtfjilngofdahgaaCIndexBytesIxBytes
import Derived.Test.YtfjilngofdahgaaCIndexBytesIxCut
import Derived.Test.YtfjilngofdahgaaCIndexBytesTblAll
import Derived.Test.YtfjilngofdahgaaCIndexBytesTextG

namespace Go.Proofs.Ytfjilngofdahgaa
open Go.RowKit
set_option maxHeartbeats 4000000
set_option maxRecDepth 100000
set_option linter.unusedVariables false

theorem rdLv_none {n : Nat} {p : InS} (h : rdTb p = none) : rdLv (n + 1) p = none := by rw [rdLv, h]; rfl
theorem rdLv_zero {n : Nat} {p q : InS} {t : Tb} (h : rdTb p = some (t, q)) (h0 : t.length = 0) : rdLv (n + 1) p = none := by
  rw [rdLv, h, Option.bind_some, if_pos h0]
theorem rdLvs_none {n : Nat} {p : InS} (h : rdLv (inNum 1 p.1 p.2) (inTake 1 p.1 p.2).2 = none) : rdLvs (n + 1) p = none := by rw [rdLvs, h]; rfl
theorem ahead_none {α : Type} (l : List α) : ahead l (none : Option (List α × InS)) = none := rfl
theorem ahead_some {α : Type} (l : List α) (q : InS) : ahead l (some (([] : List α), q)) = some (l, q) := by unfold ahead; simp
theorem read_none1 {bs : List UInt8} (h : rdLvs (inNum 1 bs 0) (inTake 1 bs 0).2 = none) : readX bs = none := by unfold readX; rw [h]; rfl
theorem read_none2 {bs : List UInt8} {lv : List Lv} {q : InS} (h : rdLvs (inNum 1 bs 0) (inTake 1 bs 0).2 = some (lv, q)) (h2 : rdTb q = none) : readX bs = none := by unfold readX; rw [h, Option.bind_some, h2]; rfl
theorem read_end {bs : List UInt8} {lv : List Lv} {q : InS} {a : Tb × InS} (h : rdLvs (inNum 1 bs 0) (inTake 1 bs 0).2 = some (lv, q)) (h2 : rdTb q = some a) : readX bs = endX lv a := by unfold readX; rw [h, Option.bind_some, h2, Option.bind_some]
def sumL (l : Lv) : Nat := (l.map List.length).sum
theorem sumL_snoc (l : Lv) (t : Tb) : sumL (l ++ [t]) = sumL l + t.length := by unfold sumL; rw [List.map_append, List.sum_append]; simp
theorem countX_snoc (ls : List Lv) (l : Lv) : countX (ls ++ [l]) = countX ls + sumL l := by unfold countX sumL; rw [List.map_append, List.sum_append]; simp
theorem sumL_le (l : Lv) : sumL l ≤ wL l := by
  induction l with
  | nil => simp [sumL]
  | cons t l ih => unfold sumL wL at *; simp only [List.map_cons, List.sum_cons]; omega
theorem countX_le (lv : List Lv) : countX lv ≤ wLs lv := by
  induction lv with
  | nil => simp [countX]
  | cons l r ih =>
    have := sumL_le l
    rw [wLs_cons]
    unfold countX at *
    unfold sumL at this
    simp only [List.map_cons, List.sum_cons]
    omega
theorem wL_snoc (l : Lv) (t : Tb) : wL (l ++ [t]) = wL l + t.length + 1 := by rw [wL_append]; unfold wL; simp; omega
theorem wLs_snoc (ls : List Lv) (l : Lv) : wLs (ls ++ [l]) = wLs ls + wL l + 1 := by rw [wLs_append, wLs_cons]; simp [wLs]; omega
def tbOf (o : Option (Tb × InS)) : Tb := match o with | none => [] | some a => a.1
theorem rdTb_rest {p q : InS} {t : Tb} (h : rdTb p = some (t, q)) : (inText 65536 p.1 p.2).2 = q := by
  unfold rdTb at h
  split at h
  · injection h with h; injection h with _ h2
  · cases h
theorem inText_few (most : Nat) (bs : List UInt8) (x : Int) : (inText most bs x).1.length + (inText most bs x).2.1.length ≤ bs.length := by
  have h1 := inTake_few 4 bs x
  unfold inText
  split
  · simp only [List.length_nil]; omega
  · have h2 := inTake_few (inNum 4 bs x) (inTake 4 bs x).2.1 (inTake 4 bs x).2.2
    omega

theorem tableX_any (gi base : Nat) (bs : List UInt8) (x : Int) (w : World) (h : InIs w base gi bs x) (hl : bs.length ≤ 1000000) :
    Calls Try.prog 67 #[.pointer (some ⟨gi, 0, none⟩)] w fun e w' => ∃ u, e = .returned (.tuple #[u, .bool (rdTb (bs, x)).isSome]) ∧ w'.ownsRow w.heap.size 27 3 u (tbOf (rdTb (bs, x))).length (enVs (tbOf (rdTb (bs, x)))) ∧ InIs w' base gi (inText 65536 bs x).2.1 (inText 65536 bs x).2.2 ∧ w.grownBy w' (some gi) := by
  have htx := inTextG gi base 65536 bs x w h (by omega) (by omega)
  have hfew := inText_few 65536 bs x
  have hrd : rdTb (bs, x) = if (openT (inText 65536 bs x).1).2 = 0 then some ((openT (inText 65536 bs x).1).1, (inText 65536 bs x).2) else none := rfl
  obtain ⟨a, ha⟩ : ∃ a, inText 65536 bs x = a := ⟨_, rfl⟩
  rw [ha] at htx hfew hrd ⊢
  obtain ⟨sa, hsa⟩ : ∃ sa : ByteArray, (⟨a.1.toArray⟩ : ByteArray) = sa := ⟨_, rfl⟩
  have hsl : sa.data.toList = a.1 := by rw [← hsa]
  have hss : sa.size ≤ 20000000 := by rw [size_list, hsl]; omega
  rw [hsa] at htx
  have hop := fun w => tblOpen_any sa w hss
  rw [hsl] at hop
  have Htx := Lib.hid htx; have Hop := Lib.hid hop; have Hrd := Lib.hid hrd
  clear htx hop hrd hsa hsl ha
  go_enter Try.func67, Try.ntmps67
  go_wp2_with fail
  refine Htx.out.mono ?_
  rintro e w1 ⟨rfl, hi1, hg1⟩
  have I1 := Lib.hid hi1; have G1 := Lib.hid hg1
  clear hi1 hg1
  by_cases h0 : (openT a.1).2 = 0
  · have hr : rdTb (bs, x) = some ((openT a.1).1, a.2) := by rw [Hrd.out, if_pos h0]
    have Hr := Lib.hid hr
    clear hr
    obtain ⟨L, hL⟩ : ∃ L, (openT a.1).1 = L := ⟨_, rfl⟩
    have hLf : L.length ≤ 1000000 := by
      have := (rdTb_few Hr.out).2
      rw [hL] at this
      dsimp only at this
      omega
    have hop1 := Hop.out w1
    rw [h0, hL] at hop1
    rw [hL] at Hr
    have Hop1 := Lib.hid hop1
    clear hop1 hL Hop h0
    go_wp2_with fail
    refine Hop1.out.mono ?_
    rintro e w2 ⟨p, rfl, _, hp2, hb2⟩
    obtain ⟨g, rfl, ht⟩ := hp2 trivial
    have B2 := Lib.hid hb2; have T2 := Lib.hid ht
    clear hp2 hb2 ht
    go_wp2_with fail
    refine (tblAll_any w1.heap.size g L w2 T2.out hLf).mono ?_
    rintro e w3 ⟨u, rfl, hown, hb3⟩
    have B3 := Lib.hid (B2.out.trans (hb3.mono B2.out.size)); have O3 := Lib.hid hown
    clear hown hb3
    go_wp2_with fail
    go_ret2
    rw [Hr.out]
    exact ⟨u, rfl, own_mono O3.out (by have := G1.out.size; have := B2.out.size; omega), I1.out.keptBelow B3.out, grown_two G1.out (grown_below B3.out)⟩
  · have hr : rdTb (bs, x) = none := by rw [Hrd.out, if_neg h0]
    have Hr := Lib.hid hr
    have hop1 := Hop.out w1
    obtain ⟨E, hE⟩ : ∃ E, (openT a.1).2 = E := ⟨_, rfl⟩
    rw [hE] at hop1 h0
    have hne : (E != 0) = true := by simpa using h0
    have Hop1 := Lib.hid hop1
    clear hop1 hr Hop hE h0
    go_wp2_with fail
    refine Hop1.out.mono ?_
    rintro e w2 ⟨p, rfl, _, _, hb2⟩
    have B2 := Lib.hid hb2
    clear hb2
    go_wp2_with fail
    go_ret2
    rw [Hr.out]
    exact ⟨_, rfl, World.ownsRow_nil _ _ _ _, I1.out.keptBelow B2.out, grown_two G1.out (grown_below B2.out)⟩

section
variable {w w1 w2 : World} {S : Nat → Prop} {g T : Nat} {room most : Int} {mem : Tb} {lv : List Lv} {r : Option Nat} {v : Value} {vs : List Value}
theorem ix_push (h : IxAt w S g room most (mem, lv) T r v vs) (hb : Below w.heap.size w w1) (v2 u4 : Value) (l4 : Lv) (F : Nat → Prop) (hL : LvIs w F none u4 l4) (huF : ∀ b, u4.ownBlock = some b → F b) (hF : ∀ b, F b → b < w.heap.size ∧ ¬ S b)
    (ho : w2.ownsRow 0 57 1 v2 (lv.length + 1) (vs ++ [u4])) (hg : w1.grownBy w2 v.ownBlock) (hat : ∀ b, v2.ownBlock = some b → v.ownBlock = some b ∨ w.heap.size ≤ b) :
    IxAt (w2.setCell ⟨g, 3, none⟩ v2) (fun b => S b ∨ v2.ownBlock = some b ∨ F b) g room most (mem, lv ++ [l4]) T r v2 (vs ++ [u4]) ∧ Chg S w (w2.setCell ⟨g, 3, none⟩ v2) := by
  have hc : Chg (fun b => b = g ∨ v.ownBlock = some b) w (w2.setCell ⟨g, 3, none⟩ v2) := ((Chg.of_below hb).grown hg (fun k hk _ => .inr hk)).set (a := ⟨g, 3, none⟩) (fun _ => .inl rfl) v2
  have hvl : vs.length = lv.length := by have := h.row.1; simpa using this
  have hblk2 : BlkIs w2 g 55 _ := (h.blk.below hb h.blk.lt).grown hg (fun e => h.dvg e.symm)
  have hC : ∀ b, (b = g ∨ v.ownBlock = some b) → (∃ t cs, BlkIs w b t cs ∧ 27 ≠ t) ∨ (∃ y e c n xs, w.ownsRow 0 e c y n xs ∧ 27 ≠ e ∧ y.ownBlock = some b) := fun b hb => by
    rcases hb with rfl | hb
    · exact .inl ⟨_, _, h.blk, by decide⟩
    · exact .inr ⟨_, _, _, _, _, h.row, by decide, hb⟩
  have hsz := hc.size
  have last : ∀ (i : Nat) (x : Value), lv.length ≤ i → (vs ++ [u4])[i]? = some x → i = lv.length ∧ x = u4 := fun i x hi h1 => by
    rw [List.getElem?_append_right (by omega)] at h1
    rcases Nat.eq_zero_or_pos (i - vs.length) with h0 | h0
    · rw [h0] at h1; exact ⟨by omega, by simpa using h1.symm⟩
    · rw [List.getElem?_eq_none (by simp; omega)] at h1; cases h1
  refine ⟨⟨hblk2.put 3 v2, h.tab.chg hc (fun e => ?_) (fun b hb e => ?_), ?_, fun i v' l h1 h2 => ?_, fun i j v1 v2' b h1 h2 h3 h4 => ?_, .inl h.sg, .inl h.sT, fun b hb => .inl (h.sr b hb), fun b hb => .inr (.inl hb), fun b hb => ?_⟩, hc.more (fun k _ hk => ?_)⟩
  · rcases e with e | e
    · exact h.dTg e
    · exact h.dvT e
  · rcases e with e | e
    · subst e; exact h.drg hb
    · exact h.dvr e hb
  · have e0 : (lv ++ [l4]).length = lv.length + 1 := by simp
    show World.ownsRow _ _ _ _ _ (lv ++ [l4]).length _
    rw [e0]
    exact own_far (a := ⟨g, 3, none⟩) ho (own_ne_blk ho hblk2 (by decide)) v2
  · dsimp only at h2
    rcases Nat.lt_or_ge i lv.length with hi | hi
    · rw [List.getElem?_append_left (by omega)] at h1
      rw [List.getElem?_append_left hi] at h2
      obtain ⟨k1, k2⟩ := h.lev i v' l h1 h2
      refine ⟨(k1.keep hc (fun b hb e => ?_) hC).more (fun b hb => .inl hb), fun b hb => .inl (k2 b hb)⟩
      rcases e with e | e
      · subst e; exact k1.dblk h.blk (by decide) hb
      · exact k1.down h.row (by decide) hb e
    · obtain ⟨e1, e2⟩ := last i v' hi h1
      subst e1 e2
      have e3 : l = l4 := by rw [List.getElem?_append_right (Nat.le_refl _), Nat.sub_self] at h2; simpa using h2.symm
      subst e3
      refine ⟨lv_inS (hL.keep hc (fun b hb e => ?_) hC) (fun b hb _ => ⟨.inr (.inr hb), fun e => (hF b hb).2 (h.sr b e.symm)⟩), fun b hb => .inr (.inr (huF b hb))⟩
      have h5 := (hF b (huF b hb)).2
      rcases e with e | e
      · exact h5 (by rw [e]; exact h.sg)
      · exact h5 (h.sv b e)
  · rcases Nat.lt_or_ge i lv.length with hi | hi
    · rcases Nat.lt_or_ge j lv.length with hj | hj
      · rw [List.getElem?_append_left (by omega)] at h1 h2
        exact h.two i j v1 v2' b h1 h2 h3 h4
      · obtain ⟨e1, e2⟩ := last j v2' hj h2
        subst e2
        rw [List.getElem?_append_left (by omega)] at h1
        exact absurd ((h.lev i v1 _ h1 (List.getElem?_eq_getElem hi)).2 b h3) (hF b (huF b h4)).2
    · obtain ⟨e1, e2⟩ := last i v1 hi h1
      subst e2
      rcases Nat.lt_or_ge j lv.length with hj | hj
      · rw [List.getElem?_append_left (by omega)] at h2
        exact absurd ((h.lev j v2' _ h2 (List.getElem?_eq_getElem hj)).2 b h4) (hF b (huF b h3)).2
      · obtain ⟨e3, _⟩ := last j v2' hj h2
        omega
  · rcases hb with hb | hb | hb
    · exact Nat.lt_of_lt_of_le (h.lt b hb) hsz
    · have := (ho.lt b hb).2
      simpa [World.setCell] using this
    · exact Nat.lt_of_lt_of_le (hF b hb).1 hsz
  · rcases hk with rfl | hk
    · exact h.sg
    · exact h.sv k hk
end
theorem InIs.chg {w w' : World} {base g : Nat} {bs : List UInt8} {e : Int} {S : Nat → Prop} (h : InIs w base g bs e) (hc : Chg S w w') (hg : ¬ S g) : InIs w' base g bs e := ⟨h.1, h.2.chg hc hg⟩
theorem chg_gi {w w' : World} {gi : Nat} (h : w.grownBy w' (some gi)) : Chg (fun b => b = gi) w w' := (Chg.refl _ w).grown h (fun k hk _ => by injection hk with hk; exact hk.symm)
end Go.Proofs.Ytfjilngofdahgaa
