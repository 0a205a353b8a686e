/- chapter 13: what the law on merging has gathered: tables, and rows of their entries. -/
import Derived.Test.YtfkkcgdniepgoaaGreatCTableMergesTblMerge
import Derived.Test.YtfkkcgdniepgoaaGreatCTableMergesRef12Merge
import Derived.Test.YtfkkcgdniepgoaaGreatCTableMergesTblLaw
import Derived.Test.YtfkkcgdniepgoaaGreatJTableMerges1

namespace Go.Proofs.YtfkkcgdniepgoaaGreat
open Go.RowKit
set_option maxHeartbeats 1000000
set_option maxRecDepth 100000
set_option linter.unusedVariables false

structure MergeAt (W w : World) (lv rv : Value) (ts : List (Nat × List En)) (rs : List (Value × List En)) : Prop where
  lo : w.ownsRow W.heap.size 41 1 lv ts.length (tblPs ts)
  ro : w.ownsRow W.heap.size 24 1 rv rs.length (rs.map fun r => r.1)
  tt : ∀ t ∈ ts, TblIs w W.heap.size t.1 t.2
  rr : ∀ r ∈ rs, w.ownsRow W.heap.size 56 3 r.1 r.2.length (enVs r.2)
  bel : Below W.heap.size W w
theorem MergeAt.nil {W w : World} (hb : Below W.heap.size W w) : MergeAt W w (.slice none 0 0) (.slice none 0 0) [] [] :=
  ⟨World.ownsRow_nil _ _ _ _, World.ownsRow_nil _ _ _ _, fun _ h => (by cases h), fun _ h => (by cases h), hb⟩
theorem MergeAt.under {W w w' : World} {lv rv : Value} {ts : List (Nat × List En)} {rs : List (Value × List En)} (h : MergeAt W w lv rv ts rs) (hb : Below w.heap.size w w') : MergeAt W w' lv rv ts rs :=
  ⟨own_below h.lo hb (fun q hq => (h.lo.lt q hq).2), own_below h.ro hb (fun q hq => (h.ro.lt q hq).2), fun t ht => (h.tt t ht).below hb (Nat.le_refl _), fun r hr => own_below (h.rr r hr) hb (fun q hq => ((h.rr r hr).lt q hq).2), h.bel.trans (hb.mono h.bel.size)⟩
theorem TblIs.grown {w w' : World} {base b g s n : Nat} {e : TypeId} {v : Value} {xs : List Value} {l : List En} (h : TblIs w base g l) (hr : w.ownsRow b e s v n xs) (hg : w.grownBy w' v.ownBlock) (h1 : e ≠ 87) (h2 : 53 ≠ e) : TblIs w' base g l := by
  obtain ⟨u, k1, k2, k3⟩ := h
  exact ⟨u, k1.grown hg (Ne.symm (own_ne_blk hr k1 h1)), k2, own_grown k3 hg (fun q hq hq2 => rows_apart k3 hr h2 q hq hq2)⟩
theorem MergeAt.addL {W w w' : World} {lv lv' rv : Value} {ts : List (Nat × List En)} {rs : List (Value × List En)} {g : Nat} {L : List En} (h : MergeAt W w lv rv ts rs) (ho : w'.ownsRow W.heap.size 41 1 lv' (ts.length + 1) (tblPs ts ++ [.pointer (some ⟨g, 0, none⟩)])) (hg : w.grownBy w' lv.ownBlock) (ht : TblIs w W.heap.size g L) : MergeAt W w' lv' rv (ts ++ [(g, L)]) rs :=
  ⟨by rw [List.length_append]; unfold tblPs at *; rw [List.map_append]; exact ho, own_grown h.ro hg (fun q hq hq2 => rows_apart h.ro h.lo (by decide) q hq hq2), fun t hm => by
    rcases List.mem_append.1 hm with h1 | h1
    · exact (h.tt t h1).grown h.lo hg (by decide) (by decide)
    · simp at h1; subst h1; exact ht.grown h.lo hg (by decide) (by decide), fun r hr => own_grown (h.rr r hr) hg (fun q hq hq2 => rows_apart (h.rr r hr) h.lo (by decide) q hq hq2), h.bel.grown hg h.bel.size (fun q hq => (h.lo.lt q hq).1)⟩
theorem MergeAt.addR {W w w' : World} {lv rv rv' u : Value} {ts : List (Nat × List En)} {rs : List (Value × List En)} {L : List En} (h : MergeAt W w lv rv ts rs) (ho : w'.ownsRow W.heap.size 24 1 rv' (rs.length + 1) ((rs.map fun r => r.1) ++ [u])) (hg : w.grownBy w' rv.ownBlock) (hu : w.ownsRow W.heap.size 56 3 u L.length (enVs L)) : MergeAt W w' lv rv' ts (rs ++ [(u, L)]) :=
  ⟨own_grown h.lo hg (fun q hq hq2 => rows_apart h.lo h.ro (by decide) q hq hq2), by rw [List.length_append, List.map_append]; exact ho, fun t hm => (h.tt t hm).grown h.ro hg (by decide) (by decide), fun r hr => by
    rcases List.mem_append.1 hr with h1 | h1
    · exact own_grown (h.rr r h1) hg (fun q hq hq2 => rows_apart (h.rr r h1) h.ro (by decide) q hq hq2)
    · simp at h1; subst h1; exact own_grown hu hg (fun q hq hq2 => rows_apart hu h.ro (by decide) q hq hq2), h.bel.grown hg h.bel.size (fun q hq => (h.ro.lt q hq).1)⟩
/-- a nil table behind the others -/
theorem MergeAt.addNil {W w w' : World} {lv lv' rv : Value} {ts : List (Nat × List En)} {rs : List (Value × List En)} (h : MergeAt W w lv rv ts rs) (ho : w'.ownsRow W.heap.size 41 1 lv' (ts.length + 1) (tblPs ts ++ [.pointer none])) (hg : w.grownBy w' lv.ownBlock) : (∀ t ∈ ts, TblIs w' W.heap.size t.1 t.2) ∧ Below W.heap.size W w' :=
  ⟨fun t hm => (h.tt t hm).grown h.lo hg (by decide) (by decide), h.bel.grown hg h.bel.size (fun q hq => (h.lo.lt q hq).1)⟩
theorem flat_same {ts : List (Nat × List En)} {rs : List (Value × List En)} (h : (rs.map fun r => r.2) = ts.map fun t => t.2) : flatR rs = flatE ts := by
  unfold flatR flatE
  rw [List.flatMap_def, List.flatMap_def, h]
theorem okE_of {l : List En} (h : mayT l = true) : ∀ x ∈ l, okE x = true := fun x hx => by
  unfold mayT at h
  rw [Bool.and_eq_true] at h
  have := List.all_eq_true.1 h.1 x hx
  unfold rightE at this
  rw [decide_eq_true_iff] at this
  exact decide_eq_true ⟨by omega, by omega, by omega⟩
theorem okE_flat {ts : List (Nat × List En)} (h : ∀ t ∈ ts, mayT t.2 = true) : ∀ x ∈ flatE ts, okE x = true := fun x hx => by
  obtain ⟨t, ht, hx⟩ := List.mem_flatMap.1 hx
  exact okE_of (h t ht) x hx
end Go.Proofs.YtfkkcgdniepgoaaGreat
