/- Lists of entries held against each other. -/
import Derived.Test.YtfkkcgdniepgoaaGreatJTableTells6
import Derived.Test.YtfkkcgdniepgoaaGreatCTableTellsTabInsert

namespace Go.Proofs.YtfkkcgdniepgoaaGreat
open Go.RowKit
set_option maxHeartbeats 2000000
set_option maxRecDepth 100000
set_option linter.unusedVariables false

theorem sameEntries_eq (B C n cn cm : Nat) (A D : Option Addr) (ps : List En) (w : World) (ha : SlR w B 3 A n (enVs ps)) (hb : SlR w C 3 D n (enVs ps)) (hn : n ≤ 9223372036854775807) :
    Calls Tryz.prog 21 #[.slice A n cn, .slice D n cm] w fun e w' => e = .returned (.bool true) ∧ ∃ k, w' = w.drewN k := by
  have hl : ps.length = n := by have := ha.len; rw [enVs_length] at this; omega
  have Ha := Lib.hid ha; have Hb := Lib.hid hb; have Hl := Lib.hid hl
  have hnn : ((n : Int) != (n : Int)) = false := by simp
  clear ha hb hl
  go_enter Tryz.func21, Tryz.ntmps21
  go_wp2_with fail
  go_loopw [5] (fun i wr => ∃ k q : Nat, k ≤ n ∧ i = .int .i64 k ∧ wr = w.drewN q) (fun i _ => n - (intOf i).toNat)
  case atStart => exact ⟨0, 0, Nat.zero_le _, rfl, rfl⟩
  case round =>
    obtain ⟨k, q, hk, rfl, rfl⟩ := hrel
    by_cases hlt : k < n
    · obtain ⟨p, hp⟩ : ∃ p, ps[k]? = some p := ⟨_, List.getElem?_eq_getElem (by rw [Hl.out]; exact hlt)⟩
      obtain ⟨ad, rfl, had, hcell⟩ := Ha.out.cells (by omega)
      obtain ⟨ad2, rfl, had2, hcell2⟩ := Hb.out.cells (by omega)
      have k0 := hcell (k * 3) _ (enVs_get ps k 0 _ hp (by omega))
      have k1 := hcell (k * 3 + 1) _ (enVs_get ps k 1 _ hp (by omega))
      have k2 := hcell (k * 3 + 2) _ (enVs_get ps k 2 _ hp (by omega))
      have l0 := hcell2 (k * 3) _ (enVs_get ps k 0 _ hp (by omega))
      have l1 := hcell2 (k * 3 + 1) _ (enVs_get ps k 1 _ hp (by omega))
      have l2 := hcell2 (k * 3 + 2) _ (enVs_get ps k 2 _ hp (by omega))
      obtain ⟨x, y, s⟩ := p
      simp [enC] at k0 k1 k2 l0 l1 l2
      rw [← add_nextE _ _ _ (by omega)] at k1 k2 l1 l2
      have hlt1 : (k : Int) < (n : Int) := by omega
      have hk0 : 0 ≤ (k : Int) := by omega
      clear hp hcell hcell2 had had2
      go_wp2_with fail
      go_quiet (fail)
      go_wp2_with fail
      go_roundw
      case rel => exact ⟨k + 1, _, by omega, by go_num, rfl⟩
      case measure => simp [intOf]; omega
    · obtain rfl : k = n := by omega
      have hd : decide (k < k) = false := by simp
      go_wp2_with fail
      go_ret
      exact ⟨rfl, q, rfl⟩
end Go.Proofs.YtfkkcgdniepgoaaGreat

/- Entries lent with a mark. -/
namespace Go.Proofs.YtfkkcgdniepgoaaGreat
open Go.RowKit
set_option maxHeartbeats 2000000
set_option maxRecDepth 100000
set_option linter.unusedVariables false

def markEn : En := (0, 0, -77)
theorem lentEntries_any (B n cap : Nat) (A : Option Addr) (ps : List En) (w : World) (hr : SlR w B 3 A n (enVs ps)) (hB : B ≤ w.heap.size) (hn : n ≤ 1000000000) (hnc : n ≤ cap) :
    Calls Tryz.prog 7 #[.slice A n cap] w fun e w' => ∃ g c, e = .returned (.slice (some ⟨g, 0, none⟩) n c) ∧ n + 1 ≤ c ∧
      w'.ownsRow w.heap.size 53 3 (.slice (some ⟨g, 0, none⟩) (n + 1) c) (n + 1) (enVs (ps ++ [markEn])) ∧ Below w.heap.size w w' := by
  obtain ⟨i0, hi0, hz0, hz1, hz2⟩ := info_parts info_en
  have Hr := Lib.hid hr; clear hr
  go_enter Tryz.func7, Tryz.ntmps7
  go_wp2_with (first
    | (at_builtin; refine wpList_append_sl _ rfl (.const (.slice none 0 0)) (.tmp 3) _ rfl w.heap.size 53 i0 _ 3 24 Tryz.underlying22 hi0 hz0 hz1 hz2 rfl (by omega) (.slice none 0 0) 0 [] rfl (World.ownsRow_nil _ _ _ _) B A n cap (enVs ps) rfl Hr.out (enVs_one ps) (by simp only [maxLen]; omega) (by omega) (Nat.le_refl _) ?_; intro v1 w1 hown1 hg1 hat1; have hb1 : Below w.heap.size w w1 := (Below.refl _ _).grown hg1 (Nat.le_refl _) (by simp [Value.ownBlock]); have Hown1 := Lib.hid hown1; clear hown1)
    | (at_builtin; refine wpList_append_lies _ rfl (.tmp 4) (.tmp 6) _ rfl w.heap.size 53 i0 _ 3 24 Tryz.underlying22 hi0 hz0 hz1 hz2 rfl (by omega) v1 (0 + n) ([] ++ enVs ps) rfl (Hown1.out.alloc _) ⟨w1.heap.size, 0, none⟩ 1 1 [.int .i64 0, .int .i64 0, .int .i64 (-77)] rfl rfl (World.news_of_block (cs := #[.int .i64 0, .int .i64 0, .int .i64 (-77)]) (heap_alloc_new w1 _)) (by simp [Value.oneCell']) (by omega) (by simp only [maxLen]; omega) (by omega) (by have := hb1.size; simp <;> omega) (w1.heap.size + 1) (by simp) ?_; intro g c w2 hown2 hg2 hat2 hlt2; have hb2 : Below w.heap.size w w2 := (hb1.alloc hb1.size _).grown hg2 (by have := hb1.size; simp <;> omega) (fun q hq => (Hown1.out.lt q hq).1); have hcc := own_cap hown2 (by omega)))
  go_ret
  refine ⟨g, c, rfl, by omega, ?_, hb2⟩
  rw [enVs_append]
  simpa [enVs, enC, markEn] using hown2
theorem lentE_sl {w : World} {base g n c : Nat} {ps : List En} (h : w.ownsRow base 53 3 (.slice (some ⟨g, 0, none⟩) (n + 1) c) (n + 1) (enVs (ps ++ [markEn]))) : SlR w w.heap.size 3 (some ⟨g, 0, none⟩) n (enVs ps) ∧ ps.length = n := by
  have hl : ps.length = n := by have := h.1; rw [enVs_length, List.length_append] at this; simp at this; omega
  have := (SlR.own h).first (show n ≤ n + 1 by omega)
  rw [enVs_take, List.take_left' hl] at this
  exact ⟨this, hl⟩

theorem staysEntries_any (C n c cap : Nat) (g : Nat) (D : Option Addr) (ps : List En) (base : Nat) (w : World) (hown : w.ownsRow base 53 3 (.slice (some ⟨g, 0, none⟩) (n + 1) c) (n + 1) (enVs (ps ++ [markEn])))
    (hb : SlR w C 3 D n (enVs ps)) (hn : n ≤ 1000000000) :
    Calls Tryz.prog 10 #[.slice (some ⟨g, 0, none⟩) n c, .slice D n cap] w fun e w' => e = .returned (.bool true) ∧ ∃ k, w' = w.drewN k := by
  have hcc := own_cap hown (by omega)
  obtain ⟨ha, hl⟩ := lentE_sl hown
  have hmk := (hown.cellAt (n * 3 + 2) (by omega)).trans (enVs_get (ps ++ [markEn]) n 2 markEn (by rw [List.getElem?_append_right (by omega), hl, Nat.sub_self]; rfl) (by omega))
  simp [enC, markEn] at hmk
  have hs := sameEntries_eq w.heap.size C n c cap (some ⟨g, 0, none⟩) D ps w ha hb (by omega)
  have Hs := Lib.hid hs
  clear hs ha hb hown hl
  go_enter Tryz.func10, Tryz.ntmps10
  go_wp2_with fail
  refine Hs.out.mono ?_
  rintro e w1 ⟨rfl, k, rfl⟩
  go_wp2_with fail
  go_ret
  exact ⟨rfl, k, rfl⟩
end Go.Proofs.YtfkkcgdniepgoaaGreat
