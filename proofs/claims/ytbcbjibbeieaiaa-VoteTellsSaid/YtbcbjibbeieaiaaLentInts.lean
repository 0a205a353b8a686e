/- The statements' helpers: lists of integers lent with a mark. -/
import Derived.Test.YtbcbjibbeieaiaaBookInts
namespace Go.Proofs.Ytbcbjibbeieaiaa
open Go.RowKit
set_option maxHeartbeats 1000000
set_option maxRecDepth 100000
set_option linter.unusedVariables false

theorem lentInts_any (B n cap : Nat) (A : Option Addr) (ss : List Int) (w : World) (hr : SlR w B 1 A n (intVs ss)) (hB : B ≤ w.heap.size) (hn : n ≤ 1000000000) (hnc : n ≤ cap) :
    Calls Try.prog 17 #[.slice A n cap] w fun e w' => ∃ g c, e = .returned (.slice (some ⟨g, 0, none⟩) n c) ∧ n + 1 ≤ c ∧
      w'.ownsRow w.heap.size 3 1 (.slice (some ⟨g, 0, none⟩) (n + 1) c) (n + 1) (intVs (ss ++ [-77])) ∧ Below w.heap.size w w' := by
  obtain ⟨i0, hi0, hz0, hz1, hz2⟩ := info_parts info_intB
  have Hr := Lib.hid hr; clear hr
  go_enter Try.func17, Try.ntmps17
  go_wp2_with (first
    | (at_builtin; refine wpList_append_sl _ rfl (.const (.slice none 0 0)) (.tmp 3) _ rfl w.heap.size 3 i0 _ 1 8 Try.underlying22 hi0 hz0 hz1 hz2 rfl (by omega) (.slice none 0 0) 0 [] rfl (World.ownsRow_nil _ _ _ _) B A n cap (intVs ss) rfl Hr.out intVs_one (by simp only [maxLen]; omega) (by omega) (Nat.le_refl _) ?_; intro v1 w1 hown1 hg1 hat1; have hb1 : Below w.heap.size w w1 := (Below.refl _ _).grown hg1 (Nat.le_refl _) (by simp [Value.ownBlock]); have Hown1 := Lib.hid hown1; clear hown1)
    | (at_builtin; refine wpList_append_lies _ rfl (.tmp 4) (.tmp 5) _ rfl w.heap.size 3 i0 _ 1 8 Try.underlying22 hi0 hz0 hz1 hz2 rfl (by omega) v1 (0 + n) ([] ++ intVs ss) rfl (Hown1.out.alloc _) ⟨w1.heap.size, 0, none⟩ 1 1 [.int .i64 (-77)] rfl rfl (World.news_of_block (cs := #[.int .i64 (-77)]) (heap_alloc_new w1 _)) (by simp [Value.oneCell']) (by omega) (by simp only [maxLen]; omega) (by omega) (by have := hb1.size; simp <;> omega) (w1.heap.size + 1) (by simp) ?_; intro g c w2 hown2 hg2 hat2 hlt2; have hb2 : Below w.heap.size w w2 := (hb1.alloc hb1.size _).grown hg2 (by have := hb1.size; simp <;> omega) (fun q hq => (Hown1.out.lt q hq).1); have hcc := own_cap hown2 (by omega)))
  go_ret
  refine ⟨g, c, rfl, by omega, ?_, hb2⟩
  rw [intVs, List.map_append]
  simpa [intVs] using hown2

theorem staysInts_any (B C n m c cap : Nat) (g : Nat) (D : Option Addr) (ss ts : List Int) (base : Nat) (w : World) (hown : w.ownsRow base 3 1 (.slice (some ⟨g, 0, none⟩) (n + 1) c) (n + 1) (intVs (ss ++ [-77])))
    (hb : SlR w C 1 D m (intVs ts)) (hn : n ≤ 1000000000) (hm : m ≤ 9223372036854775807) (heq : ss = ts) :
    Calls Try.prog 25 #[.slice (some ⟨g, 0, none⟩) n c, .slice D m cap] w fun e w' => e = .returned (.bool true) ∧ ∃ k, w' = w.drewN k := by
  have hcc := own_cap hown (by omega)
  have hl : ss.length = n := by have := hown.1; simpa [intVs] using this
  have ha : SlR w w.heap.size 1 (some ⟨g, 0, none⟩) n (intVs ss) := by
    have := own_first hown (show n ≤ n + 1 by omega)
    rw [intVs, List.map_append, List.take_left' (by simpa using hl)] at this
    exact this
  have hmk : w.cell? ⟨g, n, none⟩ = some (.int .i64 (-77)) := by
    have := hown.cells (g := g) rfl n (.int .i64 (-77)) (by rw [intVs, List.map_append, List.getElem?_append_right (by simp [hl])]; simp [hl])
    rw [show (⟨g, 0, none⟩ : Addr).add n = ⟨g, n, none⟩ from by unfold Addr.add; split <;> simp_all] at this
    exact this
  have hs := sameInts_any w.heap.size C n m c cap (some ⟨g, 0, none⟩) D ss ts w ha hb (by omega) hm
  rw [show decide (ss = ts) = true from by simpa using heq] at hs
  have Hs := Lib.hid hs
  clear hs ha hb hown hl heq
  go_enter Try.func25, Try.ntmps25
  go_wp2_with fail
  refine Hs.out.mono ?_
  rintro e w1 ⟨rfl, k, rfl⟩
  go_wp2_with fail
  go_ret
  exact ⟨rfl, k, rfl⟩
end Go.Proofs.Ytbcbjibbeieaiaa
