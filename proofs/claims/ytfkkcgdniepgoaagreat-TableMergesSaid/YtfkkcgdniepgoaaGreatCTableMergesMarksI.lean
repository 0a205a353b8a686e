/- The statements' helpers: marks and copies of lists of integers, walked. -/
import Derived.Test.YtfkkcgdniepgoaaGreatJTableMerges8
import Derived.Test.YtfkkcgdniepgoaaGreatCTableMergesBookInts

namespace Go.Proofs.YtfkkcgdniepgoaaGreat
open Go.RowKit
set_option maxHeartbeats 1000000
set_option maxRecDepth 100000
set_option linter.unusedVariables false

theorem info_I : (Tryz.prog.info? 3).map (fun i => (i.zero, i.size, i.bytes)) = some (some (.int .i64 0), 1, 8) := by kernel_rfl
/-- the mark of element k of list i -/
def eltI (i k : Nat) : Int := -1000000 * (i : Int) - (k : Int) - 7
def mkI (i k : Nat) : List Value := [.int .i64 (eltI i k)]
theorem mkI_length (i k : Nat) : (mkI i k).length = 1 := rfl
theorem mkI_one (i k : Nat) : ∀ u ∈ mkI i k, u.oneCell' = true := by intro u hu; simp [mkI] at hu; subst hu; rfl

theorem markInts_any (i k n : Nat) (w : World) (hi : i ≤ 1000000000) (hk : k + n ≤ 1000000000) :
    Calls Tryz.prog 105 #[.int .i64 i, .int .i64 k, .int .i64 n] w fun e w' => ∃ v, e = .returned v ∧
      w'.ownsRow w.heap.size 3 1 v n (marksOf mkI i k n) ∧ Below w.heap.size w w' := by
  obtain ⟨i0, hi0, hz0, hz1, hz2⟩ := info_parts info_I
  go_enter Tryz.func105, Tryz.ntmps105
  go_wp2_with fail
  go_loopw [7, 8] (fun o q wr => ∃ (m : Nat) (v : Value), v = o ∧ m ≤ n ∧ q = .int .i64 ((k + m : Nat) : Int) ∧ wr.ownsRow w.heap.size 3 1 v m (marksOf mkI i k m) ∧ Below w.heap.size w wr) (fun _ q _ => k + n - (intOf q).toNat)
  case atStart => exact ⟨0, _, rfl, Nat.zero_le _, rfl, World.ownsRow_nil _ _ _ _, Below.refl _ _⟩
  case round =>
    obtain ⟨m, v, rfl, hm, rfl, hown, hb⟩ := hrel
    have Hown := Lib.hid hown; clear hown
    by_cases hlt : m < n
    · have h1 : ((k + m : Nat) : Int) < (k : Int) + (n : Int) := by omega
      have hc : ((k + m : Nat) : Int) = (k : Int) + (m : Int) := by omega
      have hsucc := marksOf_succ mkI i k m
      have Hsucc := Lib.hid hsucc; clear hsucc
      obtain ⟨q, hq⟩ : ∃ q : Nat, k + m = q := ⟨_, rfl⟩
      rw [hq] at h1 Hsucc ⊢
      have Hq := Lib.hid hq
      have hq9 : q ≤ 1000000000 := by omega
      clear hc hq
      go_wp2_with (at_builtin; refine wpList_append_lies _ rfl (.tmp 17) (.tmp 23) _ rfl w.heap.size 3 i0 _ 1 8 Tryz.underlying48 hi0 hz0 hz1 hz2 rfl (by omega) v m (marksOf mkI i k m) rfl (Hown.out.alloc _) ⟨wr.heap.size, 0, none⟩ 1 1 [.int .i64 (eltI i q)] rfl rfl (World.news_of_block (cs := #[.int .i64 (eltI i q)]) (heap_alloc_new wr _)) (by simp [Value.oneCell']) (by omega) (by simp only [maxLen]; omega) (by omega) (by have := hb.size; simp <;> omega) (wr.heap.size + 1) (by simp) ?_; intro g cp w2 hown2 hgrow hat1 hlt1)
      have hb2 : Below w.heap.size w w2 := (hb.alloc hb.size _).grown hgrow (by have := hb.size; simp <;> omega) (fun q hq => (Hown.out.lt q hq).1)
      go_roundw
      case rel =>
        refine ⟨m + 1, _, rfl, by omega, ?_, ?_, hb2⟩
        · rw [← Hq.out]; go_num
        · rw [Hsucc.out]; exact hown2
      case measure =>
        have := Hq.out
        simp [intOf]; omega
    · obtain rfl : m = n := by omega
      have h1 : ¬ ((k + m : Nat) : Int) < (k : Int) + (m : Int) := by omega
      have hc : ((k + m : Nat) : Int) = (k : Int) + (m : Int) := by omega
      have hd : decide ((k : Int) + (m : Int) < (k : Int) + (m : Int)) = false := by simp
      rw [hc]
      clear hc h1
      go_wp2_with fail
      go_ret
      exact ⟨v, rfl, Hown.out, hb⟩

theorem copyInts_any (n : Nat) (v : Value) (xs : List Value) (w : World) (hs : Shows w 1 v xs) (hn : xs.length = n) (h9 : n ≤ 1000000000) (h1 : ∀ u ∈ xs, u.oneCell' = true) :
    Calls Tryz.prog 50 #[v] w fun e w' => ∃ v', e = .returned v' ∧ w'.ownsRow w.heap.size 3 1 v' n xs ∧ Below w.heap.size w w' := by
  obtain ⟨i0, hi0, hz0, hz1, hz2⟩ := info_parts info_I
  obtain ⟨A, m, cap, rfl, hr, hc⟩ := hs
  obtain rfl : m = n := by have := hr.len; omega
  have Hr := Lib.hid hr; have H1 := Lib.hid h1
  clear hr h1 hn
  go_enter Tryz.func50, Tryz.ntmps50
  go_wp2_with (at_builtin; refine wpList_append_sl _ rfl (.const (.slice none 0 0)) (.tmp 3) _ rfl w.heap.size 3 i0 _ 1 8 Tryz.underlying48 hi0 hz0 hz1 hz2 rfl (by omega) (.slice none 0 0) 0 [] rfl (World.ownsRow_nil _ _ _ _) w.heap.size A m cap xs rfl Hr.out H1.out (by simp only [maxLen]; omega) (by omega) (Nat.le_refl _) ?_; intro v1 w1 hown1 hg1 hat1)
  go_ret
  have hb1 : Below w.heap.size w w1 := (Below.refl _ _).grown hg1 (Nat.le_refl _) (by simp [Value.ownBlock])
  exact ⟨v1, rfl, by simpa using hown1, hb1⟩
end Go.Proofs.YtfkkcgdniepgoaaGreat
