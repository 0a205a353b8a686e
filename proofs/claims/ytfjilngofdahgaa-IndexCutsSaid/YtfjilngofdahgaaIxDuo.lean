/- chapter 14: an index and a tab beside each other; cuts again, plainly. -/
import Derived.Test.YtfjilngofdahgaaIxCut
namespace Go.Proofs.Ytfjilngofdahgaa
open Go.RowKit
set_option maxHeartbeats 2000000
set_option maxRecDepth 100000
set_option linter.unusedVariables false

theorem cutE_again (l : List En) (p : Int) : cutE (cutE l p) p = cutE l p := by
  unfold cutE
  rw [List.filter_filter]
  simp
theorem tidy_cut {s : Tb × List Lv} (h : TidyX s) (p : Int) : TidyX (cutI p s) := by
  obtain ⟨a1, a2⟩ := cutLs_flat p h.tabs (fun y hy => h.ok y (List.mem_append_right _ hy))
  have he : (cutI p s).1 ++ (cutI p s).2.flatten.flatten = cutE (s.1 ++ s.2.flatten.flatten) p := by
    unfold cutI
    dsimp only
    rw [a1]
    unfold cutE
    rw [List.filter_append]
  refine ⟨cut_sorted h.srt p, fun l hl t ht => ?_, ?_, ?_⟩
  · unfold cutI at hl
    dsimp only at hl
    obtain ⟨l0, hl0, rfl⟩ := List.mem_map.1 hl
    unfold cutL at ht
    obtain ⟨ht1, _⟩ := List.mem_filter.1 ht
    obtain ⟨t0, ht0, rfl⟩ := List.mem_map.1 ht1
    exact cut_sorted (adds_sorted List.Pairwise.nil t0) p
  · rw [he]
    exact h.nd.filter _
  · rw [he]
    intro y hy
    exact h.ok y (List.mem_filter.1 hy).1
theorem gone_again {s : Tb × List Lv} (h : TidyX s) (p : Int) : goneI p (cutI p s) = 0 := by
  have h1 := (cutI_all (tidy_cut h p) p).2
  rw [(cutI_all h p).1, cutE_again] at h1
  omega
theorem wL_cut (p : Int) (l : Lv) : wL (cutL p l) ≤ wL l := by
  induction l with
  | nil => simp [cutL, wL]
  | cons t l ih =>
    have h1 := (adds_le [] t).2
    have h2 := cutE_le (addsE [] t) p
    simp only [List.length_nil, Nat.zero_add] at h1
    unfold cutL wL at *
    simp only [List.map_cons, List.sum_cons, List.filter_cons]
    split
    · simp only [List.map_cons, List.sum_cons]; omega
    · omega
theorem wX_cut (p : Int) (s : Tb × List Lv) : wX (cutI p s) ≤ wX s := by
  have h1 := cutE_le s.1 p
  have h2 : wLs (s.2.map (cutL p)) ≤ wLs s.2 := by
    obtain ⟨m, lv⟩ := s
    dsimp only
    clear h1
    induction lv with
    | nil => simp
    | cons l r ih =>
      have := wL_cut p l
      rw [List.map_cons, wLs_cons, wLs_cons]
      omega
  rw [wX_eq, wX_eq]
  unfold cutI
  dsimp only
  omega

/-- an index and a tab that a law made, apart from each other -/
structure DuoX (W w : World) (g : Nat) (room most : Int) (s : Tb × List Lv) (T : Nat) (r : Option Nat) (L : List En) (S : Nat → Prop) : Prop where
  ix : IxIs w S g room most s
  tab : TabIs w 0 T r L
  bel : Below W.heap.size W w
  lo : ∀ b, S b → W.heap.size ≤ b
  nT : ¬ S T
  nr : ∀ b, r = some b → ¬ S b
  loT : W.heap.size ≤ T
  lor : ∀ b, r = some b → W.heap.size ≤ b
section
variable {W w w' : World} {g T : Nat} {room most : Int} {s s' : Tb × List Lv} {r r' : Option Nat} {L L' : List En} {S : Nat → Prop}
theorem DuoX.under (h : DuoX W w g room most s T r L S) (hb : Below w.heap.size w w') : DuoX W w' g room most s T r L S :=
  ⟨h.ix.below hb, h.tab.below hb, h.bel.trans (hb.mono h.bel.size), h.lo, h.nT, h.nr, h.loT, h.lor⟩
theorem DuoX.step (h : DuoX W w g room most s T r L S) (hs : IxStep S g room most w w' s') : ∃ S', DuoX W w' g room most s' T r L S' := by
  obtain ⟨S', h1, h2, h3⟩ := hs
  have hT : T < w.heap.size := by obtain ⟨v, k1, _⟩ := h.tab; exact k1.lt
  have hr : ∀ b, r = some b → b < w.heap.size := fun b hb => by obtain ⟨v, k1, k2, k3, _⟩ := h.tab; exact (k2.lt b (k3.trans hb)).2
  refine ⟨S', h1, h.tab.chg h2 h.nT h.nr, h.bel.trans (h2.below h.lo h.bel.size), fun b hb => ?_, fun hb => ?_, fun b e hb => ?_, h.loT, h.lor⟩
  · rcases h3 b hb with hb | hb
    · exact h.lo b hb
    · exact Nat.le_trans h.bel.size hb
  · rcases h3 T hb with hb | hb
    · exact h.nT hb
    · omega
  · rcases h3 b hb with hb | hb
    · exact h.nr b e hb
    · have := hr b e; omega
theorem DuoX.tabStep (h : DuoX W w g room most s T r L S) (ht : TabIs w' 0 T r' L') (hst : TabStep w w' T r r') : DuoX W w' g room most s T r' L' S := by
  have hlt : ∀ b, S b → b < w.heap.size := by obtain ⟨T', r', v, vs, hx⟩ := h.ix; exact hx.lt
  refine ⟨h.ix.chg hst.chg (fun b hb e => ?_), ht, h.bel.trans (hst.chg.below (fun b hb => ?_) h.bel.size), h.lo, h.nT, fun b e hb => ?_, h.loT, fun b e => ?_⟩
  · rcases e with e | e
    · exact h.nT (by rw [← e]; exact hb)
    · exact h.nr b e.symm hb
  · rcases hb with hb | hb
    · rw [hb]; exact h.loT
    · exact h.lor b hb.symm
  · rcases hst.row with h1 | ⟨gg, h1, h2⟩
    · exact h.nr b (h1.symm.trans e) hb
    · rw [h1] at e; injection e with e; have := hlt b hb; omega
  · rcases hst.row with h1 | ⟨gg, h1, h2⟩
    · exact h.lor b (h1.symm.trans e)
    · rw [h1] at e; injection e with e; have := h.bel.size; omega
end
end Go.Proofs.Ytfjilngofdahgaa
