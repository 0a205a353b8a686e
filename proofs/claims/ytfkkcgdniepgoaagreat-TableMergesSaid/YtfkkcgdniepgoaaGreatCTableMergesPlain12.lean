/- chapter 12: entries as the document's, and back (printed by mkplain12.py). -/
import Derived.Test.YtfkkcgdniepgoaaGreatJTableMerges9
import Derived.Test.YtfkkcgdniepgoaaGreatJTableMerges8
import Derived.Deep.RegionLaw
import Derived.Deep.RegionHeld3

namespace Go.Proofs.YtfkkcgdniepgoaaGreat
open Go.RowKit
set_option maxHeartbeats 2000000
set_option maxRecDepth 100000
set_option linter.unusedVariables false

theorem plain12_any (A : Option Addr) (n c B : Nat) (l : List En) (w : World) (hr : SlR w B 3 A n (enVs l)) (hB : B ≤ w.heap.size) (hn : n ≤ 1000000) :
    Calls Tryz.prog 6 #[.slice A n c] w fun x w' => ∃ u, x = .returned u ∧ w'.ownsRow w.heap.size 56 3 u n (enVs l) ∧ Below w.heap.size w w' := by
  obtain ⟨i0, hi0, hz0, hz1, hz2⟩ := info_parts info_ren
  have hl : l.length = n := by have := hr.len; rw [enVs_length] at this; omega
  have Hr := Lib.hid hr; have Hl := Lib.hid hl
  clear hr hl
  go_enter Tryz.func6, Tryz.ntmps6
  go_wp2_with fail
  go_loopw [3, 4] (fun o i wr => ∃ (k : Nat) (u : Value), u = o ∧ k ≤ n ∧ i = .int .i64 (k : Int) ∧ Hid (wr.ownsRow w.heap.size 56 3 u k (enVs (l.take k)) ∧ Below w.heap.size w wr)) (fun _ i _ => n - (intOf i).toNat)
  case atStart => exact ⟨0, _, rfl, Nat.zero_le _, rfl, Lib.hid ⟨World.ownsRow_nil _ _ _ _, Below.refl _ _⟩⟩
  case round =>
    obtain ⟨k, u, rfl, hk, rfl, HI⟩ := hrel
    have hk0 : 0 ≤ (k : Int) := by omega
    by_cases hlt : k < n
    · obtain ⟨ad, ⟨p0, p1, p2⟩, rfl, hadB, hpq, hat⟩ := Hr.out.en (k := k) (by omega)
      obtain ⟨hc0, hc1, hc2⟩ := hat.below HI.out.2 (by rw [add_block]; omega)
      dsimp only at hc0 hc1 hc2
      have hsn : l.take (k + 1) = l.take k ++ [(p0, p1, p2)] := by rw [List.take_add_one, hpq]; rfl
      have Hsn := Lib.hid hsn
      have hlt' : (k : Int) < n := by omega
      have hbs := HI.out.2.size
      clear hsn hat hpq
      go_wp2_with fail
      go_region_law (refine step_append_lies _ (by rfl) (.tmp 11) (.tmp 28) _ (by rfl) w.heap.size 56 i0 _ 3 24 Tryz.underlying24 hi0 hz0 hz1 hz2 rfl (by omega) u k (enVs (l.take k)) (by simp [Act.eval, Act.put]) (by exact HI.out.1.alloc _) ⟨wr.heap.size, 0, none⟩ 1 1 (enC (p0, p1, p2)) (by simp [Act.eval, Act.put]) (by rfl) (World.news_of_block (cs := #[.int .i64 p0, .int .i64 p1, .int .i64 p2]) (heap_alloc_new wr _)) (enC_one _) (by omega) (by simp only [maxLen]; omega) (by omega) (by simp <;> omega) _ rfl ?_; intro g3 c3 w3 hown3 hgrow3 hat3 hlt3)
      all_goals
        have hb3 : Below w.heap.size w w3 := (below_drewN (HI.out.2.alloc hbs (.cells #[.int .i64 p0, .int .i64 p1, .int .i64 p2] 56)) 1).grown hgrow3 (by simp <;> omega) (fun q hq => (HI.out.1.lt q hq).1)
        have hfin : Hid (w3.ownsRow w.heap.size 56 3 (.slice (some ⟨g3, 0, none⟩) (k + 1) c3) (k + 1) (enVs (l.take (k + 1))) ∧ Below w.heap.size w w3) := Lib.hid ⟨by rw [Hsn.out, enVs_append]; simpa [enVs] using hown3, hb3⟩
        clear hown3 hgrow3 hat3 hb3
        go_wp2_with fail
        go_roundw
        case rel => exact ⟨k + 1, _, rfl, by omega, by go_num, hfin⟩
        case measure => simp [intOf]; omega
    · obtain rfl : k = n := by omega
      have hd : decide (k < k) = false := by simp
      have ht : l.take k = l := List.take_of_length_le (Nat.le_of_eq Hl.out)
      have Ht := Lib.hid ht
      clear ht
      go_wp2_with fail
      go_ret
      exact ⟨u, rfl, by have := HI.out.1; rwa [Ht.out] at this, HI.out.2⟩

theorem real12_any (A : Option Addr) (n c B : Nat) (l : List En) (w : World) (hr : SlR w B 3 A n (enVs l)) (hB : B ≤ w.heap.size) (hn : n ≤ 1000000) :
    Calls Tryz.prog 22 #[.slice A n c] w fun x w' => ∃ u, x = .returned u ∧ w'.ownsRow w.heap.size 53 3 u n (enVs l) ∧ Below w.heap.size w w' := by
  obtain ⟨i0, hi0, hz0, hz1, hz2⟩ := info_parts info_en
  have hl : l.length = n := by have := hr.len; rw [enVs_length] at this; omega
  have Hr := Lib.hid hr; have Hl := Lib.hid hl
  clear hr hl
  go_enter Tryz.func22, Tryz.ntmps22
  go_wp2_with fail
  go_loopw [3, 4] (fun o i wr => ∃ (k : Nat) (u : Value), u = o ∧ k ≤ n ∧ i = .int .i64 (k : Int) ∧ Hid (wr.ownsRow w.heap.size 53 3 u k (enVs (l.take k)) ∧ Below w.heap.size w wr)) (fun _ i _ => n - (intOf i).toNat)
  case atStart => exact ⟨0, _, rfl, Nat.zero_le _, rfl, Lib.hid ⟨World.ownsRow_nil _ _ _ _, Below.refl _ _⟩⟩
  case round =>
    obtain ⟨k, u, rfl, hk, rfl, HI⟩ := hrel
    have hk0 : 0 ≤ (k : Int) := by omega
    by_cases hlt : k < n
    · obtain ⟨ad, ⟨p0, p1, p2⟩, rfl, hadB, hpq, hat⟩ := Hr.out.en (k := k) (by omega)
      obtain ⟨hc0, hc1, hc2⟩ := hat.below HI.out.2 (by rw [add_block]; omega)
      dsimp only at hc0 hc1 hc2
      have hsn : l.take (k + 1) = l.take k ++ [(p0, p1, p2)] := by rw [List.take_add_one, hpq]; rfl
      have Hsn := Lib.hid hsn
      have hlt' : (k : Int) < n := by omega
      have hbs := HI.out.2.size
      clear hsn hat hpq
      go_wp2_with fail
      go_region_law (refine step_append_lies _ (by rfl) (.tmp 11) (.tmp 28) _ (by rfl) w.heap.size 53 i0 _ 3 24 Tryz.underlying22 hi0 hz0 hz1 hz2 rfl (by omega) u k (enVs (l.take k)) (by simp [Act.eval, Act.put]) (by exact HI.out.1.alloc _) ⟨wr.heap.size, 0, none⟩ 1 1 (enC (p0, p1, p2)) (by simp [Act.eval, Act.put]) (by rfl) (World.news_of_block (cs := #[.int .i64 p0, .int .i64 p1, .int .i64 p2]) (heap_alloc_new wr _)) (enC_one _) (by omega) (by simp only [maxLen]; omega) (by omega) (by simp <;> omega) _ rfl ?_; intro g3 c3 w3 hown3 hgrow3 hat3 hlt3)
      all_goals
        have hb3 : Below w.heap.size w w3 := (below_drewN (HI.out.2.alloc hbs (.cells #[.int .i64 p0, .int .i64 p1, .int .i64 p2] 53)) 1).grown hgrow3 (by simp <;> omega) (fun q hq => (HI.out.1.lt q hq).1)
        have hfin : Hid (w3.ownsRow w.heap.size 53 3 (.slice (some ⟨g3, 0, none⟩) (k + 1) c3) (k + 1) (enVs (l.take (k + 1))) ∧ Below w.heap.size w w3) := Lib.hid ⟨by rw [Hsn.out, enVs_append]; simpa [enVs] using hown3, hb3⟩
        clear hown3 hgrow3 hat3 hb3
        go_wp2_with fail
        go_roundw
        case rel => exact ⟨k + 1, _, rfl, by omega, by go_num, hfin⟩
        case measure => simp [intOf]; omega
    · obtain rfl : k = n := by omega
      have hd : decide (k < k) = false := by simp
      have ht : l.take k = l := List.take_of_length_le (Nat.le_of_eq Hl.out)
      have Ht := Lib.hid ht
      clear ht
      go_wp2_with fail
      go_ret
      exact ⟨u, rfl, by have := HI.out.1; rwa [Ht.out] at this, HI.out.2⟩

end Go.Proofs.YtfkkcgdniepgoaaGreat
