/- chapter 13: the document's Mids. -/
import Derived.Test.YtfkkcgdniepgoaaGreatJTableTells9
import Derived.Test.YtfkkcgdniepgoaaGreatJTableTells8

namespace Go.Proofs.YtfkkcgdniepgoaaGreat
open Go.RowKit
set_option maxHeartbeats 4000000
set_option maxRecDepth 100000
set_option linter.unusedVariables false

theorem refMids_any (A : Option Addr) (n c B : Nat) (l : List En) (w : World) (hr : SlR w B 3 A n (enVs l)) (hB : B ≤ w.heap.size) (hn : n ≤ 1000000) :
    Calls Tryz.prog 26 #[.slice A n c] w fun x w' => ∃ u, x = .returned u ∧ w'.ownsRow w.heap.size 56 3 u (midsE l).length (enVs (midsE l)) ∧ Below w.heap.size w w' := by
  obtain ⟨i0, hi0, hz0, hz1, hz2⟩ := info_parts info_ren
  have hl : l.length = n := by have := hr.len; rw [enVs_length] at this; omega
  have Hr := Lib.hid hr; have Hl := Lib.hid hl
  clear hr hl
  go_enter Tryz.func26, Tryz.ntmps26
  go_wp2_with fail
  go_loopw [3, 4] (fun o i wr => ∃ (k : Nat) (u : Value), u = o ∧ k ≤ n ∧ i = .int .i64 (k : Int) ∧ wr.ownsRow w.heap.size 56 3 u (midsTo l k).length (enVs (midsTo l k)) ∧ Below w.heap.size w wr) (fun _ i _ => n - (intOf i).toNat)
  case atStart => exact ⟨0, _, rfl, Nat.zero_le _, rfl, World.ownsRow_nil _ _ _ _, Below.refl _ _⟩
  case round =>
    obtain ⟨k, u, rfl, hk, rfl, hown, hb⟩ := hrel
    have hfl := midsTo_length l k
    by_cases hlt : k < n
    · obtain ⟨ad, ⟨p0, p1, p2⟩, rfl, hadB, hpq, hat⟩ := Hr.out.en (k := k) hlt
      have hat1 := hat.below hb (by rw [add_block]; omega)
      obtain ⟨hc0, hc1, hc2⟩ := hat1
      dsimp only at hc0 hc1 hc2
      have hsn : midsTo l (k + 1) = midsTo l k ++ (if k % 8 = 0 ∨ k + 1 = l.length then [(p0, p1, p2)] else []) := by rw [midsTo, hpq]
      rw [Hl.out] at hsn
      have Hsn := Lib.hid hsn; have Hown := Lib.hid hown; have Hb := Lib.hid hb
      have hbs := hb.size
      generalize midsTo l k = F at hfl Hown Hsn
      have hlt' : (k : Int) < n := by omega
      clear hsn hown hb hat hpq
      have hm8 : (k : Int).tmod 8 = ((k % 8 : Nat) : Int) := by rw [Int.tmod_eq_emod_of_nonneg (by omega)]; omega
      obtain ⟨m8, hm⟩ : ∃ m8, k % 8 = m8 := ⟨_, rfl⟩
      rw [hm] at hm8 Hsn
      have hm8' : (k : Int) % 8 = (m8 : Int) := by omega
      by_cases h8 : m8 = 0
      · subst h8
        have Hsn := Lib.hid (Hsn.out.trans (by rw [if_pos (.inl rfl)]))
        go_wp2_with (at_builtin; refine wpList_append_lies _ rfl (.tmp 21) (.tmp 26) _ rfl w.heap.size 56 i0 _ 3 24 Tryz.underlying24 hi0 hz0 hz1 hz2 rfl (by omega) u F.length (enVs F) rfl (Hown.out.alloc _) ⟨wr.heap.size, 0, none⟩ 1 1 [.int .i64 p0, .int .i64 p1, .int .i64 p2] rfl rfl (World.news_of_block (cs := #[.int .i64 p0, .int .i64 p1, .int .i64 p2]) (by have := heap_alloc_new wr (.cells #[.int .i64 p0, .int .i64 p1, .int .i64 p2] 56); simpa using this)) (by simp [Value.oneCell']) (by omega) (by simp only [maxLen]; omega) (by omega) (by simp <;> omega) (wr.heap.size + 1) (by simp) ?_; intro g cp w3 hown3 hgrow hat3 hlt3)
        have hb3 : Below w.heap.size w w3 := (Hb.out.alloc hbs _).grown hgrow (by simp; omega) (fun q hq => (Hown.out.lt q hq).1)
        go_roundw
        case rel =>
          refine ⟨k + 1, _, rfl, by omega, by go_num, ?_, hb3⟩
          rw [Hsn.out, enVs_append, List.length_append]
          exact hown3
        case measure => simp [intOf]; omega
      · have h8' : ((m8 : Int) == 0) = false := by rw [beq_eq_false_iff_ne]; omega
        by_cases hl1 : k + 1 = n
        · have Hsn := Lib.hid (Hsn.out.trans (by rw [if_pos (.inr hl1)]))
          have hk1 : ((k : Int) == (n : Int) - 1) = true := by rw [beq_iff_eq]; omega
          go_wp2_with (at_builtin; refine wpList_append_lies _ rfl (.tmp 21) (.tmp 26) _ rfl w.heap.size 56 i0 _ 3 24 Tryz.underlying24 hi0 hz0 hz1 hz2 rfl (by omega) u F.length (enVs F) rfl (Hown.out.alloc _) ⟨wr.heap.size, 0, none⟩ 1 1 [.int .i64 p0, .int .i64 p1, .int .i64 p2] rfl rfl (World.news_of_block (cs := #[.int .i64 p0, .int .i64 p1, .int .i64 p2]) (by have := heap_alloc_new wr (.cells #[.int .i64 p0, .int .i64 p1, .int .i64 p2] 56); simpa using this)) (by simp [Value.oneCell']) (by omega) (by simp only [maxLen]; omega) (by omega) (by simp <;> omega) (wr.heap.size + 1) (by simp) ?_; intro g cp w3 hown3 hgrow hat3 hlt3)
          have hb3 : Below w.heap.size w w3 := (Hb.out.alloc hbs _).grown hgrow (by simp; omega) (fun q hq => (Hown.out.lt q hq).1)
          go_roundw
          case rel =>
            refine ⟨k + 1, _, rfl, by omega, by go_num, ?_, hb3⟩
            rw [Hsn.out, enVs_append, List.length_append]
            exact hown3
          case measure => simp [intOf]; omega
        · have Hsn := Lib.hid (Hsn.out.trans (by rw [if_neg (by omega), List.append_nil]))
          have hk1 : ((k : Int) == (n : Int) - 1) = false := by rw [beq_eq_false_iff_ne]; omega
          go_wp2_with fail
          go_roundw
          case rel =>
            refine ⟨k + 1, u, rfl, by omega, by go_num, ?_, Hb.out⟩
            rw [Hsn.out]
            exact Hown.out
          case measure => simp [intOf]; omega
    · obtain rfl : k = n := by omega
      have hd : decide ((k : Int) < (k : Int)) = false := by simp
      have ht : midsTo l k = midsE l := by unfold midsE; rw [Hl.out]
      rw [ht] at hown
      clear ht hfl
      have Hown := Lib.hid hown
      clear hown
      go_wp2_with fail
      go_ret
      exact ⟨u, rfl, Hown.out, hb⟩
end Go.Proofs.YtfkkcgdniepgoaaGreat
