/- The statements' helpers: lists of texts lent with a mark. -/
import Derived.Test.YtadhboioaacaeaaGreatCWireTellsBook

namespace Go.Proofs.YtadhboioaacaeaaGreat
open Go.RowKit
set_option maxHeartbeats 400000
set_option linter.unusedVariables false

theorem info_str : (Tryz.prog.info? 9).map (fun i => (i.zero, i.size, i.bytes)) = some (some (.string ByteArray.empty), 1, 16) := by kernel_rfl

/-- the mark behind a list that was lent -/
def markS : ByteArray := ⟨#[109, 97, 114, 107]⟩

theorem lentTexts_any (B n cap : Nat) (A : Option Addr) (ss : List ByteArray) (w : World) (hr : SlR w B 1 A n (strVs ss)) (hB : B ≤ w.heap.size) (hn : n ≤ 1000000000) (hnc : n ≤ cap) :
    Calls Tryz.prog 6 #[.slice A n cap] w fun e w' => ∃ g c, e = .returned (.slice (some ⟨g, 0, none⟩) n c) ∧ n + 1 ≤ c ∧
      w'.ownsRow w.heap.size 9 1 (.slice (some ⟨g, 0, none⟩) (n + 1) c) (n + 1) (strVs (ss ++ [markS])) ∧ Below w.heap.size w w' := by
  obtain ⟨i0, hi0, hz0, hz1, hz2⟩ := info_parts info_str
  have Hr := Lib.hid hr; clear hr
  go_enter Tryz.func6, Tryz.ntmps6
  go_wp2_with (first
    | (at_builtin; refine wpList_append_sl _ rfl (.const (.slice none 0 0)) (.tmp 3) _ rfl w.heap.size 9 i0 _ 1 16 Tryz.underlying22 hi0 hz0 hz1 hz2 rfl (by omega) (.slice none 0 0) 0 [] rfl (World.ownsRow_nil _ _ _ _) B A n cap (strVs ss) rfl Hr.out strVs_one (by simp only [maxLen]; omega) (by omega) (Nat.le_refl _) ?_; intro v1 w1 hown1 hg1 hat1; have hb1 : Below w.heap.size w w1 := (Below.refl _ _).grown hg1 (Nat.le_refl _) (by simp [Value.ownBlock]); have Hown1 := Lib.hid hown1; clear hown1)
    | (at_builtin; refine wpList_append_lies _ rfl (.tmp 4) (.tmp 5) _ rfl w.heap.size 9 i0 _ 1 16 Tryz.underlying22 hi0 hz0 hz1 hz2 rfl (by omega) v1 (0 + n) ([] ++ strVs ss) rfl (Hown1.out.alloc _) ⟨w1.heap.size, 0, none⟩ 1 1 [.string markS] rfl rfl (World.news_of_block (cs := #[.string markS]) (heap_alloc_new w1 _)) (by simp [Value.oneCell']) (by omega) (by simp only [maxLen]; omega) (by omega) (by have := hb1.size; simp <;> omega) (w1.heap.size + 1) (by simp) ?_; intro g c w2 hown2 hg2 hat2 hlt2; have hb2 : Below w.heap.size w w2 := (hb1.alloc hb1.size _).grown hg2 (by have := hb1.size; simp <;> omega) (fun q hq => (Hown1.out.lt q hq).1); have hcc := own_cap hown2 (by omega)))
  go_ret
  refine ⟨g, c, rfl, by omega, ?_, hb2⟩
  rw [strVs, List.map_append]
  simpa [strVs] using hown2

theorem staysTexts_any (B C n m c cap : Nat) (g : Nat) (D : Option Addr) (ss ts : List ByteArray) (base : Nat) (w : World) (hown : w.ownsRow base 9 1 (.slice (some ⟨g, 0, none⟩) (n + 1) c) (n + 1) (strVs (ss ++ [markS])))
    (hb : SlR w C 1 D m (strVs ts)) (hn : n ≤ 1000000000) (hm : m ≤ 9223372036854775807) (heq : ss = ts) :
    Calls Tryz.prog 14 #[.slice (some ⟨g, 0, none⟩) n c, .slice D m cap] w fun e w' => e = .returned (.bool true) ∧ ∃ k, w' = w.drewN k := by
  have hcc := own_cap hown (by omega)
  have hl : ss.length = n := by have := hown.1; simpa [strVs] using this
  have ha : SlR w w.heap.size 1 (some ⟨g, 0, none⟩) n (strVs ss) := by
    have := own_first hown (show n ≤ n + 1 by omega)
    rw [strVs, List.map_append, List.take_left' (by simpa using hl)] at this
    exact this
  have hmk : w.cell? ⟨g, n, none⟩ = some (.string markS) := by
    have := hown.cells (g := g) rfl n (.string markS) (by rw [strVs, List.map_append, List.getElem?_append_right (by simp [hl])]; simp [hl])
    rw [show (⟨g, 0, none⟩ : Addr).add n = ⟨g, n, none⟩ from by unfold Addr.add; split <;> simp_all] at this
    exact this
  have hs := sameTexts_any w.heap.size C n m c cap (some ⟨g, 0, none⟩) D ss ts w ha hb (by omega) hm
  rw [show decide (ss = ts) = true from by simpa using heq] at hs
  have Hs := Lib.hid hs
  clear hs ha hb hown hl heq
  unfold markS at hmk
  go_enter Tryz.func14, Tryz.ntmps14
  go_wp2_with fail
  refine Hs.out.mono ?_
  rintro e w1 ⟨rfl, k, rfl⟩
  go_wp2_with fail
  go_ret
  exact ⟨rfl, k, rfl⟩
end Go.Proofs.YtadhboioaacaeaaGreat
