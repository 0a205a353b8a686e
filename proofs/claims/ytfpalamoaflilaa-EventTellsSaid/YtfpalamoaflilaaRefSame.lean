/- chronicleref7: two commands held against each other (printed by mkrefsame.py). -/
import Derived.Test.YtfpalamoaflilaaRefEv
import Derived.Test.YtfpalamoaflilaaEvEqual
import Derived.Deep.RegionHeld3
namespace Go.Proofs.Ytfpalamoaflilaa
open Go.RowKit
set_option maxHeartbeats 4000000
set_option maxRecDepth 100000
set_option linter.unusedVariables false
attribute [local go_sem] run_store_flt

theorem meta_neq (a b c x y z : Int) (r : Bool) (h : r = !(decide (a = x) && decide (b = y) && decide (c = z))) (w : World) : (binOp .neq 24 (.agg #[.int .i64 a, .int .i64 b, .int .i64 c]) (.agg #[.int .i64 x, .int .i64 y, .int .i64 z])).run Try.prog w = .ok (.bool r) w := by
  subst h
  go_simp
  by_cases h1 : a = x <;> by_cases h2 : b = y <;> by_cases h3 : c = z <;> simp [h1, h2, h3]

theorem refSame_any (k t : Int) (s : ByteArray) (x : Int) (A : Option Addr) (n c : Nat) (es : List Ev) (m0 m1 m2 : Int) (k' t' : Int) (s' : ByteArray) (x' : Int) (D : Option Addr) (m d : Nat) (fs : List Ev) (p0 p1 p2 : Int) (B : Nat) (w : World)
    (ha : SlR w B 4 A n (evVs es)) (hb : SlR w B 4 D m (evVs fs)) (hB : B ≤ w.heap.size) (hn : n ≤ 1000000000) (hm : m ≤ 1000000000) :
    Calls Try.prog 30 #[.agg #[.int .i64 k, .int .i64 t, .string s, .int .i64 x, .slice A n c, .int .i64 m0, .int .i64 m1, .int .i64 m2], .agg #[.int .i64 k', .int .i64 t', .string s', .int .i64 x', .slice D m d, .int .i64 p0, .int .i64 p1, .int .i64 p2]] w fun e w' =>
      e = .returned (.bool (sameC ⟨k, t, s, x, es, m0, m1, m2⟩ ⟨k', t', s', x', fs, p0, p1, p2⟩)) ∧ Below w.heap.size w w' := by
  have hl : es.length = n := by have := ha.len; rw [evVs_length] at this; omega
  have hl2 : fs.length = m := by have := hb.len; rw [evVs_length] at this; omega
  obtain ⟨W0, hW0⟩ : ∃ W, w.alloc (.cells #[.int .i64 k, .int .i64 t, .string s, .int .i64 x, .slice A n c, .int .i64 m0, .int .i64 m1, .int .i64 m2] 26) = W := ⟨_, rfl⟩
  have hA0 : BlkIs W0 w.heap.size 26 #[.int .i64 k, .int .i64 t, .string s, .int .i64 x, .slice A n c, .int .i64 m0, .int .i64 m1, .int .i64 m2] := by rw [← hW0]; exact BlkIs.new _ _ _
  have hb0 : Below w.heap.size w W0 := by rw [← hW0]; exact (Below.refl _ _).alloc (Nat.le_refl _) _
  obtain ⟨W1, hW1⟩ : ∃ W, W0.alloc (.cells #[.int .i64 k', .int .i64 t', .string s', .int .i64 x', .slice D m d, .int .i64 p0, .int .i64 p1, .int .i64 p2] 26) = W := ⟨_, rfl⟩
  have hB1 : BlkIs W1 W0.heap.size 26 #[.int .i64 k', .int .i64 t', .string s', .int .i64 x', .slice D m d, .int .i64 p0, .int .i64 p1, .int .i64 p2] := by rw [← hW1]; exact BlkIs.new _ _ _
  have hb1 : Below W0.heap.size W0 W1 := by rw [← hW1]; exact (Below.refl _ _).alloc (Nat.le_refl _) _
  have hA1 := hA0.below hb1 hA0.lt
  have hbb := hb0.trans (hb1.mono hb0.size)
  have hBW : B ≤ W1.heap.size := Nat.le_trans hB hbb.size
  have Ha := Lib.hid (ha.below (hbb.mono hB)); have Hd := Lib.hid (hb.below (hbb.mono hB)); have HA := Lib.hid hA1; have HD := Lib.hid hB1; have Hb := Lib.hid hbb; have Hl := Lib.hid hl; have Hl2 := Lib.hid hl2
  have hcA := hA1.cell; have hcD := hB1.cell
  have q3 := str_beq s s'
  clear hA0 hb0 hB1 hb1 hA1 hbb ha hb hl hl2
  unfold sameC
  dsimp only
  by_cases h1 : k = k'
  case neg =>
    rw [decide_eq_false h1]
    have eh1 : (k != k') = true := by rw [bne_iff_ne]; exact h1
    clear h1 q3
    go_enter Try.func30, Try.ntmps30
    go_wp2_with fail
    (try rw [hW0])
    (try rw [hW1])
    go_ret
    exact ⟨by simp, Hb.out⟩
  case pos =>
    rw [decide_eq_true h1]
    have eh1 : (k != k') = false := by rw [bne_eq_false_iff_eq]; exact h1
    by_cases h2 : t = t'
    case neg =>
      rw [decide_eq_false h2]
      have eh2 : (t != t') = true := by rw [bne_iff_ne]; exact h2
      clear h1 h2 q3
      go_enter Try.func30, Try.ntmps30
      go_wp2_with fail
      (try rw [hW0])
      (try rw [hW1])
      go_ret
      exact ⟨by simp, Hb.out⟩
    case pos =>
      rw [decide_eq_true h2]
      have eh2 : (t != t') = false := by rw [bne_eq_false_iff_eq]; exact h2
      by_cases h3 : s = s'
      case neg =>
        rw [decide_eq_false h3]
        rw [decide_eq_false h3] at q3
        clear h1 h2 h3
        go_enter Try.func30, Try.ntmps30
        go_wp2_with fail
        (try rw [hW0])
        (try rw [hW1])
        go_ret
        exact ⟨by simp, Hb.out⟩
      case pos =>
        rw [decide_eq_true h3]
        rw [decide_eq_true h3] at q3
        by_cases h4 : x = x'
        case neg =>
          rw [decide_eq_false h4]
          have eh4 : (x != x') = true := by rw [bne_iff_ne]; exact h4
          clear h1 h2 h3 h4
          go_enter Try.func30, Try.ntmps30
          go_wp2_with fail
          (try rw [hW0])
          (try rw [hW1])
          go_ret
          exact ⟨by simp, Hb.out⟩
        case pos =>
          rw [decide_eq_true h4]
          have eh4 : (x != x') = false := by rw [bne_eq_false_iff_eq]; exact h4
          cases h5 : (decide (m0 = p0) && decide (m1 = p1) && decide (m2 = p2)) with
          | false =>
            have hme := meta_neq m0 m1 m2 p0 p1 p2 true (by rw [h5]; rfl)
            clear h1 h2 h3 h4 h5
            go_enter Try.func30, Try.ntmps30
            go_wp2_with fail
            (try rw [hW0])
            (try rw [hW1])
            go_ret
            exact ⟨by simp, Hb.out⟩
          | true =>
            have hme := meta_neq m0 m1 m2 p0 p1 p2 false (by rw [h5]; rfl)
            by_cases h6 : n = m
            case neg =>
              have e6 : ((n : Int) != (m : Int)) = true := by rw [bne_iff_ne]; omega
              have hr : sameEs es fs = false := by unfold sameEs; rw [decide_eq_false (by rw [Hl.out, Hl2.out]; exact h6)]; rfl
              rw [hr]
              clear h1 h2 h3 h4 h5 h6 hr
              go_enter Try.func30, Try.ntmps30
              go_wp2_with fail
              (try rw [hW0])
              (try rw [hW1])
              go_ret
              exact ⟨by simp, Hb.out⟩
            case pos =>
              subst h6
              have e6 : ((n : Int) != (n : Int)) = false := by simp
              obtain ⟨V, hV⟩ : ∃ V, sameEs es fs = V := ⟨_, rfl⟩
              rw [hV]
              have HV := Lib.hid hV
              clear hV h1 h2 h3 h4 h5
              go_enter Try.func30, Try.ntmps30
              go_wp2_with fail
              (try rw [hW0])
              (try rw [hW1])
              clear hcA hcD
              go_loopw [5] (fun i wr => ∃ k : Nat, k ≤ n ∧ i = .int .i64 (k : Int) ∧ Hid ((∀ (j : Nat) (p q : Ev), j < k → es[j]? = some p → fs[j]? = some q → sameE p q = true) ∧ Below W1.heap.size W1 wr)) (fun i _ => n - (intOf i).toNat)
              case atStart => exact ⟨0, Nat.zero_le _, rfl, Lib.hid ⟨fun j _ _ h => absurd h (by omega), Below.refl _ _⟩⟩
              case round =>
                obtain ⟨k, hk, rfl, HI⟩ := hrel
                have hk0 : 0 ≤ (k : Int) := by omega
                have hA2 := HA.out.below HI.out.2 HA.out.lt; have hD2 := HD.out.below HI.out.2 HD.out.lt
                have hcA := hA2.cell 4; have hcD := hD2.cell 4
                simp at hcA hcD
                by_cases hlt : k < n
                · obtain ⟨ad, ⟨a0, a1, a2, a3⟩, rfl, had, hp, hc⟩ := Ha.out.ev hlt
                  obtain ⟨bd, ⟨b0, b1, b2, b3⟩, rfl, hbd, hq, hc'⟩ := Hd.out.ev hlt
                  have hS0 : ∀ wx, Below W1.heap.size W1 wx → (wx.cell? ⟨w.heap.size, 4, none⟩ = some (.slice (some ad) n c) ∧ wx.cell? ⟨W0.heap.size, 4, none⟩ = some (.slice (some bd) n d)) ∧ (wx.cell? (ad.add (k * 4)) = some (.int .i64 a0) ∧ wx.cell? ⟨(ad.add (k * 4)).block, (ad.add (k * 4)).off + 1, none⟩ = some (.string a1) ∧ wx.cell? ⟨(ad.add (k * 4)).block, (ad.add (k * 4)).off + 2, none⟩ = some (.string a2) ∧ wx.cell? ⟨(ad.add (k * 4)).block, (ad.add (k * 4)).off + 3, none⟩ = some (.float .f64 a3)) ∧ (wx.cell? (bd.add (k * 4)) = some (.int .i64 b0) ∧ wx.cell? ⟨(bd.add (k * 4)).block, (bd.add (k * 4)).off + 1, none⟩ = some (.string b1) ∧ wx.cell? ⟨(bd.add (k * 4)).block, (bd.add (k * 4)).off + 2, none⟩ = some (.string b2) ∧ wx.cell? ⟨(bd.add (k * 4)).block, (bd.add (k * 4)).off + 3, none⟩ = some (.float .f64 b3)) := fun wx h =>
                    ⟨⟨(HA.out.below h HA.out.lt).cell 4, (HD.out.below h HD.out.lt).cell 4⟩, hc.below h (by rw [add_block]; omega), hc'.below h (by rw [add_block]; omega)⟩
                  have hS := hS0 _ HI.out.2
                  have hlt1 : (k : Int) < (n : Int) := by omega
                  have hse := fun w => refSameEvent_any ⟨a0, a1, a2, a3⟩ ⟨b0, b1, b2, b3⟩ w
                  have Hp := Lib.hid hp; have Hq := Lib.hid hq; have HS := Lib.hid hS0
                  have hsz := HI.out.2.size
                  have hB2 : (bd.add (k * 4)).block < wr.heap.size := by rw [add_block]; omega
                  have hA3 : (ad.add (k * 4)).block < wr.heap.size := by rw [add_block]; omega
                  unfold evA at hse
                  dsimp only at hse
                  clear hp hq hc hc' had hbd hA2 hD2 hS0
                  cases hs : sameE ⟨a0, a1, a2, a3⟩ ⟨b0, b1, b2, b3⟩ with
                  | true =>
                    simp only [hs] at hse
                    have Hs := Lib.hid hs; have Hse := Lib.hid hse
                    clear hs hse
                    have HB := HI.out.2
                    go_wp2_with fail
                    go_region_held3 (fun wx => (wx.cell? ⟨w.heap.size, 4, none⟩ = some (.slice (some ad) n c) ∧ wx.cell? ⟨W0.heap.size, 4, none⟩ = some (.slice (some bd) n d)) ∧ (wx.cell? (ad.add (k * 4)) = some (.int .i64 a0) ∧ wx.cell? ⟨(ad.add (k * 4)).block, (ad.add (k * 4)).off + 1, none⟩ = some (.string a1) ∧ wx.cell? ⟨(ad.add (k * 4)).block, (ad.add (k * 4)).off + 2, none⟩ = some (.string a2) ∧ wx.cell? ⟨(ad.add (k * 4)).block, (ad.add (k * 4)).off + 3, none⟩ = some (.float .f64 a3)) ∧ (wx.cell? (bd.add (k * 4)) = some (.int .i64 b0) ∧ wx.cell? ⟨(bd.add (k * 4)).block, (bd.add (k * 4)).off + 1, none⟩ = some (.string b1) ∧ wx.cell? ⟨(bd.add (k * 4)).block, (bd.add (k * 4)).off + 2, none⟩ = some (.string b2) ∧ wx.cell? ⟨(bd.add (k * 4)).block, (bd.add (k * 4)).off + 3, none⟩ = some (.float .f64 b3))) (first | exact hS | go_keep) ((first
                      | (go_at_call 22; refine (Hse.out _).mono ?_; rintro e w1 ⟨rfl, hb1⟩; have HB := HB.trans ((by first | exact hb1 | exact below_undrew hb1 : Below _ _ _).mono HB.size); have hS := HS.out _ HB)))
                    all_goals
                      have hfin : Hid ((∀ (j : Nat) (p q : Ev), j < k + 1 → es[j]? = some p → fs[j]? = some q → sameE p q = true)) := Lib.hid (fun j p q hj h1 h2 => by
                        rcases Nat.lt_succ_iff_lt_or_eq.1 hj with h3 | rfl
                        · exact HI.out.1 j p q h3 h1 h2
                        · rw [Hp.out] at h1; rw [Hq.out] at h2
                          injection h1 with h1; injection h2 with h2
                          rw [← h1, ← h2]; exact Hs.out)
                      have HB' := Lib.hid HB
                      clear HB hS
                      go_wp2_with fail
                      go_roundw
                      case rel => exact ⟨k + 1, by omega, by go_num, Lib.hid ⟨hfin.out, HB'.out⟩⟩
                      case measure => simp [intOf] <;> omega
                  | false =>
                    simp only [hs] at hse
                    obtain rfl : V = false := by rw [← HV.out]; exact sameEs_no Hp.out Hq.out hs
                    have Hse := Lib.hid hse
                    clear hs hse
                    have HB := HI.out.2
                    go_wp2_with fail
                    go_region_held3 (fun wx => (wx.cell? ⟨w.heap.size, 4, none⟩ = some (.slice (some ad) n c) ∧ wx.cell? ⟨W0.heap.size, 4, none⟩ = some (.slice (some bd) n d)) ∧ (wx.cell? (ad.add (k * 4)) = some (.int .i64 a0) ∧ wx.cell? ⟨(ad.add (k * 4)).block, (ad.add (k * 4)).off + 1, none⟩ = some (.string a1) ∧ wx.cell? ⟨(ad.add (k * 4)).block, (ad.add (k * 4)).off + 2, none⟩ = some (.string a2) ∧ wx.cell? ⟨(ad.add (k * 4)).block, (ad.add (k * 4)).off + 3, none⟩ = some (.float .f64 a3)) ∧ (wx.cell? (bd.add (k * 4)) = some (.int .i64 b0) ∧ wx.cell? ⟨(bd.add (k * 4)).block, (bd.add (k * 4)).off + 1, none⟩ = some (.string b1) ∧ wx.cell? ⟨(bd.add (k * 4)).block, (bd.add (k * 4)).off + 2, none⟩ = some (.string b2) ∧ wx.cell? ⟨(bd.add (k * 4)).block, (bd.add (k * 4)).off + 3, none⟩ = some (.float .f64 b3))) (first | exact hS | go_keep) ((first
                      | (go_at_call 22; refine (Hse.out _).mono ?_; rintro e w1 ⟨rfl, hb1⟩; have HB := HB.trans ((by first | exact hb1 | exact below_undrew hb1 : Below _ _ _).mono HB.size); have hS := HS.out _ HB)))
                    all_goals
                      have HB' := Lib.hid HB
                      clear HB hS
                      go_wp2_with fail
                      go_ret
                      exact ⟨by simp, Hb.out.trans (HB'.out.mono Hb.out.size)⟩
                · obtain rfl : k = n := by omega
                  have hdd : decide (k < k) = false := by simp
                  have Hye := Lib.hid (sameEs_of (Hl.out.trans Hl2.out.symm) (fun j p q h1 h2 => HI.out.1 j p q (by rw [← Hl.out]; exact (List.getElem?_eq_some_iff.1 h1).1) h1 h2))
                  obtain rfl : V = true := by rw [← HV.out]; exact Hye.out
                  go_wp2_with fail
                  go_ret
                  exact ⟨by simp, Hb.out.trans (HI.out.2.mono Hb.out.size)⟩
end Go.Proofs.Ytfpalamoaflilaa
