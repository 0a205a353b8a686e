/- The statements' helpers: room, lists of packets held against each other, lent with a mark. -/
import Derived.Test.YtadhboioaacaeaaRefCut
namespace Go.Proofs.Ytadhboioaacaeaa
open Go.RowKit
set_option maxHeartbeats 2000000
set_option maxRecDepth 100000
set_option linter.unusedVariables false

/-- how much room is left behind one part -/
def room1 (left size : Int) : Int := if left < 0 ∨ left < size then -1 else left - size

theorem room_any (left size : Int) (g B : Nat) (w : World) (hc : w.cell? ⟨g, 0, none⟩ = some (.int .i64 size)) (hl : -9223372036854775808 ≤ left ∧ left ≤ 9223372036854775807) (hs : 0 ≤ size ∧ size ≤ 9223372036854775807) :
    Calls Try.prog 31 #[.int .i64 left, .slice (some ⟨g, 0, none⟩) 1 1] w fun e w' => e = .returned (.int .i64 (room1 left size)) ∧ w = w' := by
  obtain ⟨hl1, hl2⟩ := hl
  obtain ⟨hs1, hs2⟩ := hs
  have hv : room1 left size = if left < 0 ∨ left < size then -1 else left - size := rfl
  by_cases h1 : left < 0
  · have hd1 : decide (left < 0) = true := by simpa using h1
    rw [if_pos (.inl h1)] at hv
    have Hv := Lib.hid hv; clear hv
    go_enter Try.func31, Try.ntmps31
    go_wp2
    refine wp_loop_rounds 1 ?_
    rw [rounds_succ]
    go_wp2
    go_ret
    rw [Hv.out]
    exact ⟨rfl, rfl⟩
  · by_cases h2 : left < size
    · rw [if_pos (.inr h2)] at hv
      have Hv := Lib.hid hv; clear hv
      have h1' : 0 ≤ left := by omega
      go_enter Try.func31, Try.ntmps31
      go_wp2
      refine wp_loop_rounds 1 ?_
      rw [rounds_succ]
      go_wp2
      go_ret
      rw [Hv.out]
      exact ⟨rfl, rfl⟩
    · rw [if_neg (by omega)] at hv
      have Hv := Lib.hid hv; clear hv
      have h1' : 0 ≤ left := by omega
      have h2' : size ≤ left := by omega
      go_enter Try.func31, Try.ntmps31
      go_wp2
      refine wp_loop_rounds 2 ?_
      rw [rounds_succ]
      go_wp2
      rw [rounds_succ]
      go_wp2
      go_ret
      rw [Hv.out]
      exact ⟨rfl, rfl⟩

theorem samePackets_eq (B C n cn cm : Nat) (A D : Option Addr) (ps : List Pk) (w : World) (ha : SlR w B 3 A n (pkVs ps)) (hb : SlR w C 3 D n (pkVs ps)) (hn : n ≤ 9223372036854775807) :
    Calls Try.prog 32 #[.slice A n cn, .slice D n cm] w fun e w' => e = .returned (.bool true) ∧ ∃ k, w' = w.drewN k := by
  have hl : ps.length = n := by have := ha.len; rw [pkVs_length] at this; omega
  have Ha := Lib.hid ha; have Hb := Lib.hid hb; have Hl := Lib.hid hl
  have hnn : ((n : Int) != (n : Int)) = false := by simp
  clear ha hb hl
  go_enter Try.func32, Try.ntmps32
  go_wp2_with fail
  go_loopw [5] (fun i wr => ∃ k q : Nat, k ≤ n ∧ i = .int .i64 k ∧ wr = w.drewN q) (fun i _ => n - (intOf i).toNat)
  case atStart => exact ⟨0, 0, Nat.zero_le _, rfl, rfl⟩
  case round =>
    obtain ⟨k, q, hk, rfl, rfl⟩ := hrel
    by_cases hlt : k < n
    · obtain ⟨p, hp⟩ : ∃ p, ps[k]? = some p := ⟨_, List.getElem?_eq_getElem (by rw [Hl.out]; exact hlt)⟩
      obtain ⟨ad, rfl, had, hcell⟩ := Ha.out.cells (by omega)
      obtain ⟨ad2, rfl, had2, hcell2⟩ := Hb.out.cells (by omega)
      have k0 := hcell (k * 3) _ (pkVs_get ps k 0 _ hp (by omega))
      have k1 := hcell (k * 3 + 1) _ (pkVs_get ps k 1 _ hp (by omega))
      have k2 := hcell (k * 3 + 2) _ (pkVs_get ps k 2 _ hp (by omega))
      have l0 := hcell2 (k * 3) _ (pkVs_get ps k 0 _ hp (by omega))
      have l1 := hcell2 (k * 3 + 1) _ (pkVs_get ps k 1 _ hp (by omega))
      have l2 := hcell2 (k * 3 + 2) _ (pkVs_get ps k 2 _ hp (by omega))
      obtain ⟨x, y, s⟩ := p
      simp [pkC] at k0 k1 k2 l0 l1 l2
      rw [← add_nextN _ _ _ (by omega)] at k1 k2 l1 l2
      have hlt1 : (k : Int) < (n : Int) := by omega
      have hk0 : 0 ≤ (k : Int) := by omega
      clear hp hcell hcell2 had had2
      go_wp2_with fail
      go_quiet (fail)
      go_wp2_with fail
      go_roundw
      case rel => exact ⟨k + 1, _, by omega, by go_num, rfl⟩
      case measure => simp [intOf]; omega
    · obtain rfl : k = n := by omega
      have hd : decide (k < k) = false := by simp
      go_wp2_with fail
      go_ret
      exact ⟨rfl, q, rfl⟩

def markP : Pk := (0, -77, ByteArray.empty)
theorem lentPackets_any (B n cap : Nat) (A : Option Addr) (ps : List Pk) (w : World) (hr : SlR w B 3 A n (pkVs ps)) (hB : B ≤ w.heap.size) (hn : n ≤ 1000000000) (hnc : n ≤ cap) :
    Calls Try.prog 17 #[.slice A n cap] w fun e w' => ∃ g c, e = .returned (.slice (some ⟨g, 0, none⟩) n c) ∧ n + 1 ≤ c ∧
      w'.ownsRow w.heap.size 28 3 (.slice (some ⟨g, 0, none⟩) (n + 1) c) (n + 1) (pkVs (ps ++ [markP])) ∧ Below w.heap.size w w' := by
  obtain ⟨i0, hi0, hz0, hz1, hz2⟩ := info_parts info_pk
  have Hr := Lib.hid hr; clear hr
  go_enter Try.func17, Try.ntmps17
  go_wp2_with (first
    | (at_builtin; refine wpList_append_sl _ rfl (.const (.slice none 0 0)) (.tmp 3) _ rfl w.heap.size 28 i0 _ 3 32 Try.underlying39 hi0 hz0 hz1 hz2 rfl (by omega) (.slice none 0 0) 0 [] rfl (World.ownsRow_nil _ _ _ _) B A n cap (pkVs ps) rfl Hr.out (pkVs_one ps) (by simp only [maxLen]; omega) (by omega) (Nat.le_refl _) ?_; intro v1 w1 hown1 hg1 hat1; have hb1 : Below w.heap.size w w1 := (Below.refl _ _).grown hg1 (Nat.le_refl _) (by simp [Value.ownBlock]); have Hown1 := Lib.hid hown1; clear hown1)
    | (at_builtin; refine wpList_append_lies _ rfl (.tmp 4) (.tmp 6) _ rfl w.heap.size 28 i0 _ 3 32 Try.underlying39 hi0 hz0 hz1 hz2 rfl (by omega) v1 (0 + n) ([] ++ pkVs ps) rfl (Hown1.out.alloc _) ⟨w1.heap.size, 0, none⟩ 1 1 [.int .i64 0, .int .i64 (-77), .string ByteArray.empty] rfl rfl (World.news_of_block (cs := #[.int .i64 0, .int .i64 (-77), .string ByteArray.empty]) (heap_alloc_new w1 _)) (by simp [Value.oneCell']) (by omega) (by simp only [maxLen]; omega) (by omega) (by have := hb1.size; simp <;> omega) (w1.heap.size + 1) (by simp) ?_; intro g c w2 hown2 hg2 hat2 hlt2; have hb2 : Below w.heap.size w w2 := (hb1.alloc hb1.size _).grown hg2 (by have := hb1.size; simp <;> omega) (fun q hq => (Hown1.out.lt q hq).1); have hcc := own_cap hown2 (by omega)))
  go_ret
  refine ⟨g, c, rfl, by omega, ?_, hb2⟩
  rw [pkVs_append]
  simpa [pkVs, pkC, markP] using hown2
theorem lentP_sl {w : World} {base g n c : Nat} {ps : List Pk} (h : w.ownsRow base 28 3 (.slice (some ⟨g, 0, none⟩) (n + 1) c) (n + 1) (pkVs (ps ++ [markP]))) : SlR w w.heap.size 3 (some ⟨g, 0, none⟩) n (pkVs ps) ∧ ps.length = n := by
  have hl : ps.length = n := by have := h.1; rw [pkVs_length, List.length_append] at this; simp at this; omega
  have := (SlR.own h).first (show n ≤ n + 1 by omega)
  rw [pkVs_take, List.take_left' hl] at this
  exact ⟨this, hl⟩

theorem staysPackets_any (C n c cap : Nat) (g : Nat) (D : Option Addr) (ps : List Pk) (base : Nat) (w : World) (hown : w.ownsRow base 28 3 (.slice (some ⟨g, 0, none⟩) (n + 1) c) (n + 1) (pkVs (ps ++ [markP])))
    (hb : SlR w C 3 D n (pkVs ps)) (hn : n ≤ 1000000000) :
    Calls Try.prog 19 #[.slice (some ⟨g, 0, none⟩) n c, .slice D n cap] w fun e w' => e = .returned (.bool true) ∧ ∃ k, w' = w.drewN k := by
  have hcc := own_cap hown (by omega)
  obtain ⟨ha, hl⟩ := lentP_sl hown
  have hmk := (hown.cellAt (n * 3 + 1) (by omega)).trans (pkVs_get (ps ++ [markP]) n 1 markP (by rw [List.getElem?_append_right (by omega), hl, Nat.sub_self]; rfl) (by omega))
  simp [pkC, markP] at hmk
  have hs := samePackets_eq w.heap.size C n c cap (some ⟨g, 0, none⟩) D ps w ha hb (by omega)
  have Hs := Lib.hid hs
  clear hs ha hb hown hl
  go_enter Try.func19, Try.ntmps19
  go_wp2_with fail
  refine Hs.out.mono ?_
  rintro e w1 ⟨rfl, k, rfl⟩
  go_wp2_with fail
  go_ret
  exact ⟨rfl, k, rfl⟩
end Go.Proofs.Ytadhboioaacaeaa
