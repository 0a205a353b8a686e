/- The statements' book: lists of entries (printed by mkbook.py). -/
import Derived.Test.YtgaeoglhammjiaaBookE1
namespace Go.Proofs.Ytgaeoglhammjiaa
open Go.RowKit
set_option maxHeartbeats 4000000
set_option maxRecDepth 100000
set_option linter.unusedVariables false

theorem sameEntries_shows (v u : Value) (xs : List Value) (w : World) (h1 : Shows w 3 v xs) (h2 : Shows w 3 u xs) (hf : ∃ ss : List En, xs = enVs ss) (hn : xs.length ≤ 1000000000) :
    Calls Try.prog 11 #[v, u] w fun e w' => e = .returned (.bool true) ∧ ∃ k, w' = w.drewN k := by
  obtain ⟨ss, rfl⟩ := hf
  obtain ⟨A, n, c, rfl, hr, hc⟩ := h1
  obtain ⟨D, m, d, rfl, hr2, hc2⟩ := h2
  have hl := hr.len
  have hl2 := hr2.len
  obtain rfl : n = m := by omega
  exact sameEntries_eq w.heap.size w.heap.size n c d A D ss w hr hr2 (by omega)

theorem stillEntries_any (g base : Nat) (cs : Array Value) (tv wv : Value) (vs ws : List Value) (xss : List (List Value)) (w : World)
    (hB : BlkIs w g 49 cs) (h0 : cs[6]? = some tv) (h1 : cs[7]? = some wv) (hK : KindE w base tv wv vs ws xss) (hl : vs.length ≤ 250) :
    Calls Try.prog 46 #[.pointer (some ⟨g, 0, none⟩)] w fun e w' => e = .returned (.bool true) ∧ ∃ k, w' = w.drewN k := by
  obtain ⟨At, ct, rfl, hct⟩ := own_slice hK.rt
  obtain ⟨Aw, cw, rfl, hcw⟩ := own_slice hK.rw
  have hc0 : w.cell? ⟨g, 6, none⟩ = some (.slice At vs.length ct) := (hB.cell 6).trans h0
  have hc1 : w.cell? ⟨g, 7, none⟩ = some (.slice Aw ws.length cw) := (hB.cell 7).trans h1
  have hww : ws.length = vs.length := by have h1 := hK.lv.len; have h2 := hK.lw.len; omega
  have Hw := Lib.hid hww; have HK := Lib.hid hK
  clear hB h0 h1 hK hww
  obtain ⟨N, hN⟩ : ∃ N, vs.length = N := ⟨_, rfl⟩
  rw [hN] at hc0 Hw hl hct
  rw [Hw.out] at hc1
  have HN := Lib.hid hN; clear hN
  go_enter Try.func46, Try.ntmps46
  go_wp2_with fail
  go_loopw [3] (fun i wr => ∃ k q : Nat, k ≤ N ∧ i = .int .i64 k ∧ wr = w.drewN q) (fun i _ => N - (intOf i).toNat)
  case atStart => exact ⟨0, 0, Nat.zero_le _, rfl, rfl⟩
  case round =>
    obtain ⟨k, q, hk, rfl, rfl⟩ := hrel
    by_cases hlt : k < N
    · obtain ⟨ad, u, hA, had, hu, hcell⟩ := (SlR.own HK.out.rt).get (k := k) (by rw [HN.out]; exact hlt)
      obtain ⟨ad2, u2, hA2, had2, hu2, hcell2⟩ := (SlR.own HK.out.rw).get (k := k) (by rw [Hw.out]; exact hlt)
      subst hA hA2
      obtain ⟨xs, hx⟩ := get_of_len HK.out.lv.len hu
      have hs1 := HK.out.lv.shows hu hx
      have hs2 := HK.out.lw.shows hu2 hx
      have hfm := HK.out.form xs (List.mem_of_getElem? hx)
      have hfw := HK.out.few xs (List.mem_of_getElem? hx)
      have i1 : (k : Int) < (N : Int) := by omega
      have i0 : 0 ≤ (k : Int) := by omega
      obtain ⟨B1, n1, c1, rfl, _, _⟩ := hs1.form
      obtain ⟨B2, n2, c2, rfl, _, _⟩ := hs2.form
      have Hs1 := Lib.hid hs1; have Hs2 := Lib.hid hs2; have Hfm := Lib.hid hfm; have hfw2 : xs.length ≤ 1000000000 := by omega
      clear hs1 hs2 hfm hu hu2 hx had had2
      go_wp2_with fail
      go_region_held3 (fun wx => wx.cell? ⟨g, 6, none⟩ = some (.slice (some ad) N ct) ∧ wx.cell? ⟨g, 7, none⟩ = some (.slice (some ad2) N cw) ∧ wx.cell? (ad.add k) = some (.slice B1 n1 c1) ∧ wx.cell? (ad2.add k) = some (.slice B2 n2 c2))
        (first | go_keep | exact ⟨hc0, hc1, hcell, hcell2⟩)
        ((go_at_call 11; refine (sameEntries_shows _ _ xs _ (by first | exact (Hs1.out.drewN q).drew | exact (Hs1.out.drewN _)) (by first | exact (Hs2.out.drewN q).drew | exact (Hs2.out.drewN _)) Hfm.out hfw2).mono ?_; rintro e w2 ⟨rfl, k2, rfl⟩))
      go_wp2_with fail
      go_roundw
      case rel => exact ⟨k + 1, _, by omega, by go_num, rfl⟩
      case measure => simp [intOf]; omega
    · obtain rfl : k = N := by omega
      have hd : decide (k < k) = false := by simp
      go_wp2_with fail
      go_ret
      exact ⟨rfl, q, rfl⟩
end Go.Proofs.Ytgaeoglhammjiaa
