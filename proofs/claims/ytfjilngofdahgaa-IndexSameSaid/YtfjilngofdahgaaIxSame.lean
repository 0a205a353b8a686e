/- chapter 14: Flush and Merge at an index that a law made. -/
import Derived.Test.YtfjilngofdahgaaIxMerge
import Derived.Test.YtfjilngofdahgaaIxSameLaw
import Derived.IntWalk
namespace Go.Proofs.Ytfjilngofdahgaa
open Go.RowKit
set_option maxHeartbeats 4000000
set_option maxRecDepth 100000
set_option linter.unusedVariables false

theorem IxNew.flush {W w : World} {g : Nat} {room most : Int} {s : Tb × List Lv} (h : IxNew W w g room most s) (hw : wX s ≤ 800000) (hm : 2 ≤ most) :
    Calls Try.prog 16 #[.pointer (some ⟨g, 0, none⟩)] w fun e w' => (∃ b, e = .returned (.bool b)) ∧ IxNew W w' g room most (flushX most s) := by
  obtain ⟨S, h1, h2, h3⟩ := h
  refine (flushX_any S g room most s w h1 hw hm).mono ?_
  rintro e w' ⟨rfl, S', k1, k2, k3⟩
  exact ⟨⟨_, rfl⟩, S', k1, h2.trans (k2.below h3 h2.size), fun b hb => by
    rcases k3 b hb with hb | hb
    · exact h3 b hb
    · exact Nat.le_trans h2.size hb⟩
theorem IxNew.adds {W w : World} {g : Nat} {room most : Int} {s : Tb × List Lv} (h : IxNew W w g room most s) (hs : SortedE s.1) (hw : wX s ≤ 600000) (hm : 2 ≤ most) (es : List En) (n c : Nat) (hn2 : n ≤ 1000) (A : Option Addr) (hr : SlR w w.heap.size 3 A n (enVs es)) (hap : 0 < n → ∀ ad, A = some ad → ad.block < W.heap.size) :
    Calls Try.prog 10 #[.pointer (some ⟨g, 0, none⟩), .slice A n c] w fun e w' => e = .returned (.int .i64 (cntsX room most s es : Nat)) ∧ IxNew W w' g room most (addsX room most s es) := by
  obtain ⟨S, h1, h2, h3⟩ := h
  refine (addX_any S g room most s A n c es w h1 hs (by omega) hm hr (fun h0 ad e hS => by have := hap h0 ad e; have := h3 _ hS; omega)).mono ?_
  rintro e w' ⟨rfl, S', k1, k2, k3⟩
  refine ⟨rfl, S', k1, h2.trans (k2.below h3 h2.size), fun b hb => ?_⟩
  rcases k3 b hb with hb | hb
  · exact h3 b hb
  · exact Nat.le_trans h2.size hb
/-! what an index answers, told of all its entries L -/
theorem IxNew.len {W w : World} {g : Nat} {room most : Int} {s : Tb × List Lv} {L : List En} (h : IxNew W w g room most s) (hL : allX s.1 s.2 = L) (hw : wX s ≤ 900000) :
    Calls Try.prog 13 #[.pointer (some ⟨g, 0, none⟩)] w fun e w' => e = .returned (.int .i64 (L.length : Int)) ∧ Below w.heap.size w w' := by
  obtain ⟨S, h1, h2, h3⟩ := h
  subst hL
  exact lenX_any S g room most s w h1 hw
theorem IxNew.find {W w : World} {g : Nat} {room most : Int} {s : Tb × List Lv} {L : List En} (h : IxNew W w g room most s) (hL : allX s.1 s.2 = L) (hw : wX s ≤ 900000) (a b : Int) :
    Calls Try.prog 24 #[.pointer (some ⟨g, 0, none⟩), .int .i64 a, .int .i64 b] w fun e w' => ∃ u, e = .returned u ∧ w'.ownsRow w.heap.size 3 1 u (findE L a b).length (intVs (findE L a b)) ∧ Below w.heap.size w w' := by
  obtain ⟨S, h1, h2, h3⟩ := h
  subst hL
  exact findX_any S g room most s a b w h1 hw
theorem IxNew.range {W w : World} {g : Nat} {room most : Int} {s : Tb × List Lv} {L : List En} (h : IxNew W w g room most s) (hL : allX s.1 s.2 = L) (hw : wX s ≤ 900000) (a b c : Int) :
    Calls Try.prog 21 #[.pointer (some ⟨g, 0, none⟩), .int .i64 a, .int .i64 b, .int .i64 c] w fun e w' => ∃ u, e = .returned u ∧ w'.ownsRow w.heap.size 27 3 u (rangeE L a b c).length (enVs (rangeE L a b c)) ∧ Below w.heap.size w w' := by
  obtain ⟨S, h1, h2, h3⟩ := h
  subst hL
  exact rangeX_any S g room most s a b c w h1 hw
theorem IxNew.last {W w : World} {g : Nat} {room most : Int} {s : Tb × List Lv} {L : List En} (h : IxNew W w g room most s) (hL : allX s.1 s.2 = L) (hw : wX s ≤ 900000) (a : Int) :
    Calls Try.prog 18 #[.pointer (some ⟨g, 0, none⟩), .int .i64 a] w fun e w' => e = .returned (.tuple #[enA ((lastE L a).getD (0, 0, 0)), .bool (lastE L a).isSome]) ∧ Below w.heap.size w w' := by
  obtain ⟨S, h1, h2, h3⟩ := h
  subst hL
  exact lastX_any S g room most s a w h1 hw
theorem IxNew.merge {W w : World} {g : Nat} {room most : Int} {s : Tb × List Lv} (h : IxNew W w g room most s) (hw : wX s ≤ 800000) :
    Calls Try.prog 17 #[.pointer (some ⟨g, 0, none⟩)] w fun e w' => (∃ b, e = .returned (.bool b)) ∧ IxNew W w' g room most (mergeX s) := by
  obtain ⟨S, h1, h2, h3⟩ := h
  refine (mergeX_any S g room most s w h1 hw).mono ?_
  rintro e w' ⟨hb, S', k1, k2, k3⟩
  exact ⟨hb, S', k1, h2.trans (k2.below h3 h2.size), fun b hb => by
    rcases k3 b hb with hb | hb
    · exact h3 b hb
    · exact Nat.le_trans h2.size hb⟩
theorem merge_all (s : Tb × List Lv) : allX (mergeX s).1 (mergeX s).2 = allX s.1 s.2 := by
  unfold mergeX
  split
  · rfl
  · exact merged_all s
theorem merge_w (s : Tb × List Lv) : wX (mergeX s) ≤ wX s + 2 := by
  unfold mergeX
  split
  · omega
  · have h1 := (adds_le [] (s.1 ++ s.2.flatten.flatten)).2
    have h2 := flats_len s.2
    rw [wX_eq, wX_eq]
    simp only [List.length_append, List.length_nil, Nat.zero_add] at h1
    have h3 : wLs [[allX s.1 s.2]] = (allX s.1 s.2).length + 2 := by simp [wLs, wL]
    simp only [List.length_nil, Nat.zero_add]
    rw [h3]
    unfold allX
    omega
end Go.Proofs.Ytfjilngofdahgaa
