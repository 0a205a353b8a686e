/- chapter 13: TableMids, walked. -/
import Derived.Test.YtfkkcgdniepgoaaTblAlive
import Derived.Test.YtfkkcgdniepgoaaMidsPlain
import Derived.Test.YtfkkcgdniepgoaaTabEql
namespace Go.Proofs.Ytfkkcgdniepgoaa
open Go.RowKit
set_option maxHeartbeats 4000000
set_option maxRecDepth 100000
set_option linter.unusedVariables false

theorem add_zero' (ad : Addr) : ad.add 0 = ad := by unfold Addr.add; simp

theorem tableMids_any (a0 : Int) (w : World) :
    Calls Try.prog 4 #[.int .i64 a0] w fun e w' => e = .returned (.bool true) ∧ Below w.heap.size w w' := by
  by_cases hc : 0 ≤ a0 ∧ a0 ≤ 100
  · obtain ⟨n, hn⟩ : ∃ n : Nat, a0 = (n : Int) := ⟨a0.toNat, by omega⟩
    subst hn
    have hn100 : n ≤ 100 := by omega
    have hn1 : (n : Int) ≤ 100 := by omega
    clear hc
    obtain ⟨i0, hi0, hz0, hz1, hz2⟩ := info_parts info_en
    go_enter Try.func4, Try.ntmps4
    go_wp2_with fail
    go_loopw [3, 4] (fun o i wr => ∃ (k : Nat) (u : Value), u = o ∧ k ≤ n ∧ i = .int .i64 (k : Int) ∧ wr.ownsRow w.heap.size 33 3 u k (enVs (midL k)) ∧ Below w.heap.size w wr) (fun _ i _ => n - (intOf i).toNat)
    case atStart => exact ⟨0, _, rfl, Nat.zero_le _, rfl, World.ownsRow_nil _ _ _ _, Below.refl _ _⟩
    case round =>
      obtain ⟨k, u, rfl, hk, rfl, hown, hb⟩ := hrel
      by_cases hlt : k < n
      · have hlt' : (k : Int) < (n : Int) := by omega
        have Hsn := Lib.hid (midL_succ k)
        have Hown := Lib.hid hown; have Hb := Lib.hid hb
        have hbs := hb.size
        obtain ⟨k7, hk7⟩ : ∃ k7 : Nat, k / 7 = k7 := ⟨_, rfl⟩
        obtain ⟨m7, hm7⟩ : ∃ m7 : Nat, k % 7 = m7 := ⟨_, rfl⟩
        have hd7 : (k : Int) / 7 = (k7 : Int) := by omega
        have hr7 : (k : Int) % 7 = (m7 : Int) := by omega
        have ht7 : (k : Int).tdiv 7 = (k7 : Int) := by rw [Int.tdiv_eq_ediv_of_nonneg (by omega)]; exact hd7
        have hs7 : (k : Int).tmod 7 = (m7 : Int) := by rw [Int.tmod_eq_emod_of_nonneg (by omega)]; exact hr7
        rw [hk7, hm7] at Hsn
        generalize midL k = F at Hown Hsn
        clear hown hb hk7 hm7
        go_wp2_with (at_builtin; refine wpList_append_lies _ rfl (.tmp 23) (.tmp 31) _ rfl w.heap.size 33 i0 _ 3 24 Try.underlying22 hi0 hz0 hz1 hz2 rfl (by omega) u k (enVs F) rfl (Hown.out.alloc _) ⟨wr.heap.size, 0, none⟩ 1 1 [.int .i64 (k7 : Int), .int .i64 (m7 : Int), .int .i64 (3 * (k : Int))] rfl rfl (World.news_of_block (cs := #[.int .i64 (k7 : Int), .int .i64 (m7 : Int), .int .i64 (3 * (k : Int))]) (by have := heap_alloc_new wr (.cells #[.int .i64 (k7 : Int), .int .i64 (m7 : Int), .int .i64 (3 * (k : Int))] 33); simpa using this)) (by simp [Value.oneCell']) (by omega) (by simp only [maxLen]; omega) (by omega) (by simp <;> omega) (wr.heap.size + 1) (by simp) ?_; intro g cp w3 hown3 hgrow hat3 hlt3)
        have hb3 : Below w.heap.size w w3 := (Hb.out.alloc hbs _).grown hgrow (by simp; omega) (fun q hq => (Hown.out.lt q hq).1)
        go_roundw
        case rel =>
          refine ⟨k + 1, _, rfl, by omega, by go_num, ?_, hb3⟩
          rw [Hsn.out, enVs_append]
          simpa [enVs, enC] using hown3
        case measure => simp [intOf]; omega
      · obtain rfl : k = n := by omega
        have hdk : decide ((k : Int) < (k : Int)) = false := by simp
        obtain ⟨A, c, rfl, hnc⟩ := own_slice hown
        have hsr := SlR.own hown
        have hbuild := build_any A k c wr.heap.size (midL k) wr hsr (Nat.le_refl _) (by omega)
        rw [buildT_yes (midL_may hn100)] at hbuild
        have Hbuild := Lib.hid hbuild
        have Hsr := Lib.hid hsr
        have Hb := Lib.hid hb
        clear hown hb hbuild hsr
        go_wp2_with fail
        refine Hbuild.out.mono ?_
        rintro x w1 ⟨rfl, hb1⟩
        have hopen := tblOpen_any ⟨(sealT (midL k)).toArray⟩ w1 (by rw [size_mk, sealT_length, midL_len]; omega)
        rw [show openT (ByteArray.mk (sealT (midL k)).toArray).data.toList = (midL k, 0) from openT_build (midL k) (midL_may hn100) (by rw [midL_len]; omega)] at hopen
        have Hopen := Lib.hid hopen
        have Hb1 := Lib.hid (Hb.out.trans (hb1.mono Hb.out.size))
        have Hsr1 := Lib.hid (Hsr.out.below hb1)
        have hs1 := hb1.size
        have hs0 := Hb.out.size
        clear hopen hb1 Hbuild Hsr Hb
        go_wp2_with fail
        refine Hopen.out.mono ?_
        rintro x w2 ⟨p, rfl, _, h1, hb2⟩
        obtain ⟨g, rfl, hT⟩ := h1 trivial
        have hmi := tblMids_any w1.heap.size g (midL k) w2 hT (by rw [midL_len]; omega)
        have Hmi := Lib.hid hmi
        have Hb2 := Lib.hid (Hb1.out.trans (hb2.mono Hb1.out.size))
        have Hsr2 := Lib.hid (Hsr1.out.below (hb2.mono hs1))
        have hs2 := hb2.size
        clear hT h1 hb2 hmi Hopen Hsr1 Hb1
        go_wp2_with fail
        refine Hmi.out.mono ?_
        rintro x w3 ⟨u3, rfl, hown3, hb3⟩
        obtain ⟨A3, c3, rfl, hnc3⟩ := own_slice hown3
        have hmr := SlR.own hown3
        have hmlen : (midsE (midL k)).length * 8 ≤ k + 14 := by have := mids_length_le (midL k); rwa [midL_len] at this
        have Hmr := Lib.hid hmr
        have Hb3 := Lib.hid (Hb2.out.trans (hb3.mono Hb2.out.size))
        have Hsr3 := Lib.hid (Hsr2.out.below (hb3.mono (by omega)))
        have hs3 := hb3.size
        have Hst := Lib.hid (fun (h : 1 ≤ k) => @midL_step k)
        have Hen := Lib.hid (fun (h : 1 ≤ k) => midL_ends h)
        have Hml := Lib.hid (fun (h : 1 ≤ k) => (midL_mid h).1)
        clear hown3 hb3 hmr Hmi Hsr2 Hb2
        by_cases hk0 : k = 0
        · subst hk0
          have h0 : (midsE (midL 0)).length = 0 := rfl
          rw [h0]
          go_wp2_with fail
          refine (alive13_any _).mono ?_
          rintro x w4 ⟨rfl, hb4⟩
          go_wp2_with fail
          go_ret
          exact ⟨rfl, Hb3.out.trans (hb4.mono Hb3.out.size)⟩
        · have hk0' : ((k : Int) == 0) = false := by rw [beq_eq_false_iff_ne]; omega
          have Hst := Lib.hid (fun i => @midL_step k i (by omega))
          have Hen := Lib.hid (Hen.out (by omega))
          have Hml := Lib.hid (Hml.out (by omega))
          generalize midsE (midL k) = ms at Hmr Hst Hen Hml hmlen hnc3
          have Hl0 := Lib.hid (fun (i : Nat) (h : i < k) => midL_get h)
          generalize midL k = l at Hsr3 Hen Hl0
          have hk1 : 1 ≤ k := by omega
          have Hb0 := Lib.hid Hb3.out
          clear Hb3
          have hm1 : 1 ≤ ms.length := by have := Hml.out; omega
          have hm13 : ms.length ≤ 14 := by omega
          go_wp2_with fail
          go_loopw [10] (fun i wr => ∃ q : Nat, 1 ≤ q ∧ q ≤ ms.length ∧ i = .int .i64 (q : Int) ∧ Below w3.heap.size w3 wr) (fun i _ => ms.length - (intOf i).toNat)
          case atStart => exact ⟨1, Nat.le_refl _, hm1, rfl, Below.refl _ _⟩
          case round =>
            obtain ⟨q, hq1, hq2, rfl, hbq⟩ := hrel
            by_cases hlt2 : q < ms.length
            · have hlt2' : (q : Int) < (ms.length : Int) := by omega
              obtain ⟨x, y, hx, hy, hxy, a, b, t, hxa, hyb, hab, ht8, hbn⟩ := Hst.out q hq1 hlt2
              obtain ⟨ad, y', rfl, had, hy', haty⟩ := Hmr.out.en (k := q) hlt2
              rw [hy] at hy'; injection hy' with hy'; subst hy'
              obtain ⟨ad2, x', hA2, had2, hx', hatx⟩ := Hmr.out.en (k := q - 1) (by omega)
              rw [hx] at hx'; injection hx' with hx'; subst hx'
              injection hA2 with hA2
              subst hA2
              obtain ⟨x0, x1, x2⟩ := x
              obtain ⟨y0, y1, y2⟩ := y
              dsimp only at hxa hyb
              subst hxa hyb
              obtain ⟨j, hj⟩ : ∃ j, q - 1 = j := ⟨_, rfl⟩
              rw [hj] at hatx
              have hjq : (q : Int) - 1 = (j : Int) := by omega
              have hjw : IntKind.i64.wrap ((q : Int) - 1) = (j : Int) := by rw [IntWalk.i64_in _ (by omega)]; exact hjq
              have hjw2 : IntKind.i64.wrap (j : Int) = (j : Int) := IntWalk.i64_in _ (by omega)
              have hj0 : 0 ≤ (j : Int) := by omega
              have hj1 : (j : Int) < (ms.length : Int) := by omega
              have hq0 : 0 ≤ (q : Int) := by omega
              have hba : (b : Int) - (a : Int) = ((3 * t : Nat) : Int) := by omega
              obtain ⟨z, hz⟩ : ∃ z : Nat, 3 * t = z := ⟨_, rfl⟩
              rw [hz] at hba
              have hbw : IntKind.i64.wrap ((b : Int) - (a : Int)) = (z : Int) := by rw [IntWalk.i64_in _ (by omega)]; exact hba
              have hzt : (z : Int).tdiv 3 = (t : Int) := by rw [Int.tdiv_eq_ediv_of_nonneg (by omega)]; omega
              have hzd : (z : Int) / 3 = (t : Int) := by omega
              have htw : IntKind.i64.wrap (t : Int) = (t : Int) := IntWalk.i64_in _ (by omega)
              have hzw : IntKind.i64.wrap (z : Int) = (z : Int) := IntWalk.i64_in _ (by omega)
              have ht8' : (t : Int) ≤ 8 := by omega
              have h8t : decide ((8 : Int) < (t : Int)) = false := by rw [decide_eq_false_iff_not]; omega
              have hless := fun w => less_any (x0, x1, (a : Int)) (y0, y1, (b : Int)) w
              simp only [hxy] at hless
              unfold enA at hless
              dsimp only at hless
              have Hless := Lib.hid hless
              have hS : ∀ wx, Below wr.heap.size wr wx → wx.cell? (ad.add (q * 3)) = some (.int .i64 y0) ∧ wx.cell? ⟨(ad.add (q * 3)).block, (ad.add (q * 3)).off + 1, none⟩ = some (.int .i64 y1) ∧ wx.cell? ⟨(ad.add (q * 3)).block, (ad.add (q * 3)).off + 2, none⟩ = some (.int .i64 (b : Int)) ∧ wx.cell? (ad.add (j * 3)) = some (.int .i64 x0) ∧ wx.cell? ⟨(ad.add (j * 3)).block, (ad.add (j * 3)).off + 1, none⟩ = some (.int .i64 x1) ∧ wx.cell? ⟨(ad.add (j * 3)).block, (ad.add (j * 3)).off + 2, none⟩ = some (.int .i64 (a : Int)) := fun wx h => by
                have h3 := hbq.trans (h.mono hbq.size)
                have f1 := haty.below h3 (by rw [add_block]; exact had)
                have f2 := hatx.below h3 (by rw [add_block]; exact had)
                exact ⟨f1.1, f1.2.1, f1.2.2, f2.1, f2.2.1, f2.2.2⟩
              have HS := Lib.hid hS
              have HB := Below.refl wr.heap.size wr
              have Hbq := Lib.hid hbq
              clear hless hxy hatx haty hx hy hS hbq hj hz hab had2
              go_wp2_with fail
              refine wp_region_held_drew (S := (fun wx => wx.cell? (ad.add (q * 3)) = some (.int .i64 y0) ∧ wx.cell? ⟨(ad.add (q * 3)).block, (ad.add (q * 3)).off + 1, none⟩ = some (.int .i64 y1) ∧ wx.cell? ⟨(ad.add (q * 3)).block, (ad.add (q * 3)).off + 2, none⟩ = some (.int .i64 (b : Int)) ∧ wx.cell? (ad.add (j * 3)) = some (.int .i64 x0) ∧ wx.cell? ⟨(ad.add (j * 3)).block, (ad.add (j * 3)).off + 1, none⟩ = some (.int .i64 x1) ∧ wx.cell? ⟨(ad.add (j * 3)).block, (ad.add (j * 3)).off + 2, none⟩ = some (.int .i64 (a : Int)))) (by kernel_rfl) (HS.out _ (below_drewN HB 1)) (fun hHeld => ?_)
              refine take_at 0 (some 69) (v := ?_) rfl (by kernel_rfl) (by kernel_rfl) (by kernel_rfl) (by kernel_rfl) (fun _ _ _ h => h) (Or.inl ⟨by kernel_rfl, ?_⟩) (by assumption) ?_
              rotate_left
              · (intro w hSw; (try dsimp only at hSw); go_simp; try with_reducible rfl)
              try simp only [Act.put, List.setIfInBounds_toArray, List.set_cons_zero, List.set_cons_succ]
              refine take_at 1 (some 70) (v := ?_) rfl (by kernel_rfl) (by kernel_rfl) (by kernel_rfl) (by kernel_rfl) (fun _ _ _ h => h) (Or.inl ⟨by kernel_rfl, ?_⟩) (by assumption) ?_
              rotate_left
              · (intro w hSw; (try dsimp only at hSw); go_simp; try with_reducible rfl)
              try simp only [Act.put, List.setIfInBounds_toArray, List.set_cons_zero, List.set_cons_succ]
              refine take_at 2 (some 71) (v := ?_) rfl (by kernel_rfl) (by kernel_rfl) (by kernel_rfl) (by kernel_rfl) (fun _ _ _ h => h) (Or.inl ⟨by kernel_rfl, ?_⟩) (by assumption) ?_
              rotate_left
              · (intro w hSw; (try dsimp only at hSw); go_simp; try with_reducible rfl)
              try simp only [Act.put, List.setIfInBounds_toArray, List.set_cons_zero, List.set_cons_succ]
              refine take_at 3 (some 72) (v := ?_) rfl (by kernel_rfl) (by kernel_rfl) (by kernel_rfl) (by kernel_rfl) (fun _ _ _ h => h) (Or.inl ⟨by kernel_rfl, ?_⟩) (by assumption) ?_
              rotate_left
              · (intro w hSw; (try dsimp only at hSw); go_simp; try with_reducible rfl)
              try simp only [Act.put, List.setIfInBounds_toArray, List.set_cons_zero, List.set_cons_succ]
              refine take_at 4 (some 73) (v := ?_) rfl (by kernel_rfl) (by kernel_rfl) (by kernel_rfl) (by kernel_rfl) (fun _ _ _ h => h) (Or.inl ⟨by kernel_rfl, ?_⟩) (by assumption) ?_
              rotate_left
              · (intro w hSw; (try dsimp only at hSw); go_simp; try with_reducible rfl)
              try simp only [Act.put, List.setIfInBounds_toArray, List.set_cons_zero, List.set_cons_succ]
              refine take_at 5 (some 74) (v := ?_) rfl (by kernel_rfl) (by kernel_rfl) (by kernel_rfl) (by kernel_rfl) (fun _ _ _ h => h) (Or.inl ⟨by kernel_rfl, ?_⟩) (by assumption) ?_
              rotate_left
              · (intro w hSw; (try dsimp only at hSw); go_simp; try with_reducible rfl)
              try simp only [Act.put, List.setIfInBounds_toArray, List.set_cons_zero, List.set_cons_succ]
              refine take_at 6 (some 75) (v := ?_) rfl (by kernel_rfl) (by kernel_rfl) (by kernel_rfl) (by kernel_rfl) (fun _ _ _ h => h) (Or.inl ⟨by kernel_rfl, ?_⟩) (by assumption) ?_
              rotate_left
              · (intro w hSw; (try dsimp only at hSw); go_simp; try with_reducible rfl)
              try simp only [Act.put, List.setIfInBounds_toArray, List.set_cons_zero, List.set_cons_succ]
              refine take_at 7 (some 76) (v := ?_) rfl (by kernel_rfl) (by kernel_rfl) (by kernel_rfl) (by kernel_rfl) (fun _ _ _ h => h) (Or.inl ⟨by kernel_rfl, ?_⟩) (by assumption) ?_
              rotate_left
              · (intro w hSw; (try dsimp only at hSw); go_simp; try with_reducible rfl)
              try simp only [Act.put, List.setIfInBounds_toArray, List.set_cons_zero, List.set_cons_succ]
              refine take_at 8 (some 77) (v := ?_) rfl (by kernel_rfl) (by kernel_rfl) (by kernel_rfl) (by kernel_rfl) (fun _ _ _ h => h) (Or.inl ⟨by kernel_rfl, ?_⟩) (by assumption) ?_
              rotate_left
              · (intro w hSw; (try dsimp only at hSw); go_simp; try with_reducible rfl)
              try simp only [Act.put, List.setIfInBounds_toArray, List.set_cons_zero, List.set_cons_succ]
              refine take_at 9 (some 78) (v := ?_) rfl (by kernel_rfl) (by kernel_rfl) (by kernel_rfl) (by kernel_rfl) (fun _ _ _ h => h) (Or.inl ⟨by kernel_rfl, ?_⟩) (by assumption) ?_
              rotate_left
              · (intro w hSw; (try dsimp only at hSw); go_simp; try with_reducible rfl)
              try simp only [Act.put, List.setIfInBounds_toArray, List.set_cons_zero, List.set_cons_succ]
              refine take_at 10 (some 79) (v := ?_) rfl (by kernel_rfl) (by kernel_rfl) (by kernel_rfl) (by kernel_rfl) (fun _ _ _ h => h) (Or.inl ⟨by kernel_rfl, ?_⟩) (by assumption) ?_
              rotate_left
              · (intro w hSw; (try dsimp only at hSw); go_simp; try with_reducible rfl)
              try simp only [Act.put, List.setIfInBounds_toArray, List.set_cons_zero, List.set_cons_succ]
              refine take_at 11 (some 80) (v := ?_) rfl (by kernel_rfl) (by kernel_rfl) (by kernel_rfl) (by kernel_rfl) (fun _ _ _ h => h) (Or.inl ⟨by kernel_rfl, ?_⟩) (by assumption) ?_
              rotate_left
              · (intro w hSw; (try dsimp only at hSw); go_simp; try with_reducible rfl)
              try simp only [Act.put, List.setIfInBounds_toArray, List.set_cons_zero, List.set_cons_succ]
              refine take_at 12 (some 81) (v := ?_) rfl (by kernel_rfl) (by kernel_rfl) (by kernel_rfl) (by kernel_rfl) (fun _ _ _ h => h) (Or.inl ⟨by kernel_rfl, ?_⟩) (by assumption) ?_
              rotate_left
              · (intro w hSw; (try dsimp only at hSw); go_simp; try with_reducible rfl)
              try simp only [Act.put, List.setIfInBounds_toArray, List.set_cons_zero, List.set_cons_succ]
              refine take_at 13 (some 82) (v := ?_) rfl (by kernel_rfl) (by kernel_rfl) (by kernel_rfl) (by kernel_rfl) (fun _ _ _ h => h) (Or.inl ⟨by kernel_rfl, ?_⟩) (by assumption) ?_
              rotate_left
              · (intro w hSw; (try dsimp only at hSw); go_simp; try with_reducible rfl)
              try simp only [Act.put, List.setIfInBounds_toArray, List.set_cons_zero, List.set_cons_succ]
              refine take_at 14 (some 83) (v := ?_) rfl (by kernel_rfl) (by kernel_rfl) (by kernel_rfl) (by kernel_rfl) (fun _ _ _ h => h) (Or.inl ⟨by kernel_rfl, ?_⟩) (by assumption) ?_
              rotate_left
              · (intro w hSw; (try dsimp only at hSw); go_simp; try with_reducible rfl)
              try simp only [Act.put, List.setIfInBounds_toArray, List.set_cons_zero, List.set_cons_succ]
              refine take_at 15 (some 84) (v := ?_) rfl (by kernel_rfl) (by kernel_rfl) (by kernel_rfl) (by kernel_rfl) (fun _ _ _ h => h) (Or.inl ⟨by kernel_rfl, ?_⟩) (by assumption) ?_
              rotate_left
              · (intro w hSw; (try dsimp only at hSw); go_simp; try with_reducible rfl)
              try simp only [Act.put, List.setIfInBounds_toArray, List.set_cons_zero, List.set_cons_succ]
              refine take_at 16 (some 85) (v := ?_) rfl (by kernel_rfl) (by kernel_rfl) (by kernel_rfl) (by kernel_rfl) (fun _ _ _ h => h) (Or.inl ⟨by kernel_rfl, ?_⟩) (by assumption) ?_
              rotate_left
              · (intro w hSw; (try dsimp only at hSw); go_simp; try with_reducible rfl)
              try simp only [Act.put, List.setIfInBounds_toArray, List.set_cons_zero, List.set_cons_succ]
              refine take_at 17 (some 86) (v := ?_) rfl (by kernel_rfl) (by kernel_rfl) (by kernel_rfl) (by kernel_rfl) (fun _ _ _ h => h) (Or.inl ⟨by kernel_rfl, ?_⟩) (by assumption) ?_
              rotate_left
              · (intro w hSw; (try dsimp only at hSw); go_simp; try with_reducible rfl)
              try simp only [Act.put, List.setIfInBounds_toArray, List.set_cons_zero, List.set_cons_succ]
              refine take_at 18 (some 87) (v := ?_) rfl (by kernel_rfl) (by kernel_rfl) (by kernel_rfl) (by kernel_rfl) (fun _ _ _ h => h) (Or.inl ⟨by kernel_rfl, ?_⟩) (by assumption) ?_
              rotate_left
              · (intro w hSw; (try dsimp only at hSw); go_simp; try with_reducible rfl)
              try simp only [Act.put, List.setIfInBounds_toArray, List.set_cons_zero, List.set_cons_succ]
              refine take_at 19 (some 88) (v := ?_) rfl (by kernel_rfl) (by kernel_rfl) (by kernel_rfl) (by kernel_rfl) (fun _ _ _ h => h) (Or.inl ⟨by kernel_rfl, ?_⟩) (by assumption) ?_
              rotate_left
              · (intro w hSw; (try dsimp only at hSw); go_simp; try with_reducible rfl)
              try simp only [Act.put, List.setIfInBounds_toArray, List.set_cons_zero, List.set_cons_succ]
              refine take_at 20 (some 89) (v := ?_) rfl (by kernel_rfl) (by kernel_rfl) (by kernel_rfl) (by kernel_rfl) (fun _ _ _ h => h) (Or.inl ⟨by kernel_rfl, ?_⟩) (by assumption) ?_
              rotate_left
              · (intro w hSw; (try dsimp only at hSw); go_simp; try with_reducible rfl)
              try simp only [Act.put, List.setIfInBounds_toArray, List.set_cons_zero, List.set_cons_succ]
              refine take_at 21 (some 90) (v := ?_) rfl (by kernel_rfl) (by kernel_rfl) (by kernel_rfl) (by kernel_rfl) (fun _ _ _ h => h) (Or.inl ⟨by kernel_rfl, ?_⟩) (by assumption) ?_
              rotate_left
              · (intro w hSw; (try dsimp only at hSw); go_simp; try with_reducible rfl)
              try simp only [Act.put, List.setIfInBounds_toArray, List.set_cons_zero, List.set_cons_succ]
              refine take_at 22 (some 91) (v := ?_) rfl (by kernel_rfl) (by kernel_rfl) (by kernel_rfl) (by kernel_rfl) (fun _ _ _ h => h) (Or.inl ⟨by kernel_rfl, ?_⟩) (by assumption) ?_
              rotate_left
              · (intro w hSw; (try dsimp only at hSw); go_simp; try with_reducible rfl)
              try simp only [Act.put, List.setIfInBounds_toArray, List.set_cons_zero, List.set_cons_succ]
              refine take_at 23 (some 92) (v := ?_) rfl (by kernel_rfl) (by kernel_rfl) (by kernel_rfl) (by kernel_rfl) (fun _ _ _ h => h) (Or.inl ⟨by kernel_rfl, ?_⟩) (by assumption) ?_
              rotate_left
              · (intro w hSw; (try dsimp only at hSw); go_simp; try with_reducible rfl)
              try simp only [Act.put, List.setIfInBounds_toArray, List.set_cons_zero, List.set_cons_succ]
              refine wpAnyH_ready (rs := [24]) (by kernel_rfl) (by simp) ?_
              refine AllReadyH.cons rfl (fun K hK => ?_) AllReadyH.nil
              go_simp
              refine (Hless.out _).mono ?_; rintro e wx ⟨rfl, hb⟩; have HB := HB.trans ((by first | exact hb | exact below_undrew hb : Below _ _ _).mono HB.size)
              first | (refine hK.out _ _ (HS.out _ HB) (fun hHeld => ?_)) | (go_wp2_with fail; refine hK.out _ _ (HS.out _ HB) (fun hHeld => ?_))
              clear hK K
              try simp only [Act.put, List.setIfInBounds_toArray, List.set_cons_zero, List.set_cons_succ]
              refine take_at 25 (some 94) (v := ?_) rfl (by kernel_rfl) (by kernel_rfl) (by kernel_rfl) (by kernel_rfl) (fun _ _ _ h => h) (Or.inl ⟨by kernel_rfl, ?_⟩) (by assumption) ?_
              rotate_left
              · (intro w hSw; (try dsimp only at hSw); go_simp; try with_reducible rfl)
              try simp only [Act.put, List.setIfInBounds_toArray, List.set_cons_zero, List.set_cons_succ]
              refine take_at 26 (some 95) (v := ?_) rfl (by kernel_rfl) (by kernel_rfl) (by kernel_rfl) (by kernel_rfl) (fun _ _ _ h => h) (Or.inl ⟨by kernel_rfl, ?_⟩) (by assumption) ?_
              rotate_left
              · (intro w hSw; (try dsimp only at hSw); go_simp; try with_reducible rfl)
              try simp only [Act.put, List.setIfInBounds_toArray, List.set_cons_zero, List.set_cons_succ]
              refine wpAnyH_done (by kernel_rfl) ?_ _
              go_wp2_with fail
              go_roundw
              case rel => exact ⟨q + 1, by omega, by omega, by go_num, Hbq.out.trans (HB.mono Hbq.out.size)⟩
              case measure => simp [intOf]; omega
            · obtain rfl : q = ms.length := by omega
              have hd2 : decide ((ms.length : Int) < (ms.length : Int)) = false := by simp
              obtain ⟨ad, p', hA0, had, hp', hat0⟩ := Hmr.out.en (k := 0) (by omega)
              subst hA0
              obtain ⟨ad1, z', hA1, had1, hz', hat1⟩ := Hmr.out.en (k := ms.length - 1) (by omega)
              injection hA1 with hA1
              subst hA1
              obtain ⟨bd, p2, hB0, hbd, hp2, hbt0⟩ := Hsr3.out.en (k := 0) (by omega)
              subst hB0
              obtain ⟨bd1, z2, hB1, hbd1, hz2', hbt1⟩ := Hsr3.out.en (k := k - 1) (by omega)
              injection hB1 with hB1
              subst hB1
              have he0 := Hen.out.1
              have he1 := Hen.out.2
              rw [hp', hp2] at he0
              rw [hz', hz2'] at he1
              injection he0 with he0
              injection he1 with he1
              subst he0 he1
              obtain ⟨p0, p1, p2⟩ := p'
              obtain ⟨r0, r1, r2⟩ := z'
              obtain ⟨jm, hjm⟩ : ∃ jm, ms.length - 1 = jm := ⟨_, rfl⟩
              obtain ⟨jk, hjk⟩ : ∃ jk, k - 1 = jk := ⟨_, rfl⟩
              rw [hjm] at hat1
              rw [hjk] at hbt1
              rw [Nat.zero_mul, add_zero'] at hat0 hbt0
              have hjmI : (ms.length : Int) - 1 = (jm : Int) := by omega
              have hjkI : (k : Int) - 1 = (jk : Int) := by omega
              have hjmw : IntKind.i64.wrap ((ms.length : Int) - 1) = (jm : Int) := by rw [IntWalk.i64_in _ (by omega)]; exact hjmI
              have hjkw : IntKind.i64.wrap ((k : Int) - 1) = (jk : Int) := by rw [IntWalk.i64_in _ (by omega)]; exact hjkI
              have hjmw2 : IntKind.i64.wrap (jm : Int) = (jm : Int) := IntWalk.i64_in _ (by omega)
              have hjkw2 : IntKind.i64.wrap (jk : Int) = (jk : Int) := IntWalk.i64_in _ (by omega)
              have hjm0 : 0 ≤ (jm : Int) := by omega
              have hjk0 : 0 ≤ (jk : Int) := by omega
              have hjm1 : (jm : Int) < (ms.length : Int) := by omega
              have hjk1 : (jk : Int) < (k : Int) := by omega
              have hmI1 : 1 ≤ (ms.length : Int) := by omega
              have hmI0 : 0 < (ms.length : Int) := by omega
              have hkI0 : 0 < (k : Int) := by omega
              have hmN0 : 0 < ms.length := by omega
              have hkN0 : 0 < k := by omega
              have hEq : ∀ w, (binOp .eql 33 (.agg #[.int .i64 p0, .int .i64 p1, .int .i64 p2]) (.agg #[.int .i64 p0, .int .i64 p1, .int .i64 p2])).run Try.prog w = .ok (.bool true) w := fun w => by rw [run_eql_en]; simp
              have hEr : ∀ w, (binOp .eql 33 (.agg #[.int .i64 r0, .int .i64 r1, .int .i64 r2]) (.agg #[.int .i64 r0, .int .i64 r1, .int .i64 r2])).run Try.prog w = .ok (.bool true) w := fun w => by rw [run_eql_en]; simp
              have hS : ∀ wx, Below wr.heap.size wr wx → wx.cell? (ad) = some (.int .i64 p0) ∧ wx.cell? ⟨(ad).block, (ad).off + 1, none⟩ = some (.int .i64 p1) ∧ wx.cell? ⟨(ad).block, (ad).off + 2, none⟩ = some (.int .i64 p2) ∧ wx.cell? (bd) = some (.int .i64 p0) ∧ wx.cell? ⟨(bd).block, (bd).off + 1, none⟩ = some (.int .i64 p1) ∧ wx.cell? ⟨(bd).block, (bd).off + 2, none⟩ = some (.int .i64 p2) ∧ wx.cell? (ad.add (jm * 3)) = some (.int .i64 r0) ∧ wx.cell? ⟨(ad.add (jm * 3)).block, (ad.add (jm * 3)).off + 1, none⟩ = some (.int .i64 r1) ∧ wx.cell? ⟨(ad.add (jm * 3)).block, (ad.add (jm * 3)).off + 2, none⟩ = some (.int .i64 r2) ∧ wx.cell? (bd.add (jk * 3)) = some (.int .i64 r0) ∧ wx.cell? ⟨(bd.add (jk * 3)).block, (bd.add (jk * 3)).off + 1, none⟩ = some (.int .i64 r1) ∧ wx.cell? ⟨(bd.add (jk * 3)).block, (bd.add (jk * 3)).off + 2, none⟩ = some (.int .i64 r2) := fun wx h => by
                have h3 := hbq.trans (h.mono hbq.size)
                have f1 := hat0.below h3 had
                have f2 := hat1.below h3 (by rw [add_block]; exact had)
                have g1 := hbt0.below h3 (Nat.lt_of_lt_of_le hbd (by omega))
                have g2 := hbt1.below h3 (by rw [add_block]; exact Nat.lt_of_lt_of_le hbd (by omega))
                exact ⟨f1.1, f1.2.1, f1.2.2, g1.1, g1.2.1, g1.2.2, f2.1, f2.2.1, f2.2.2, g2.1, g2.2.1, g2.2.2⟩
              have HS := Lib.hid hS
              have HB := Below.refl wr.heap.size wr
              have Hbq := Lib.hid hbq
              clear hS hat0 hat1 hbt0 hbt1 hbq hjm hjk hp' hz' hp2 hz2' hnc hnc3
              go_wp2_with fail
              refine wp_region_held_drew (S := (fun wx => wx.cell? (ad) = some (.int .i64 p0) ∧ wx.cell? ⟨(ad).block, (ad).off + 1, none⟩ = some (.int .i64 p1) ∧ wx.cell? ⟨(ad).block, (ad).off + 2, none⟩ = some (.int .i64 p2) ∧ wx.cell? (bd) = some (.int .i64 p0) ∧ wx.cell? ⟨(bd).block, (bd).off + 1, none⟩ = some (.int .i64 p1) ∧ wx.cell? ⟨(bd).block, (bd).off + 2, none⟩ = some (.int .i64 p2) ∧ wx.cell? (ad.add (jm * 3)) = some (.int .i64 r0) ∧ wx.cell? ⟨(ad.add (jm * 3)).block, (ad.add (jm * 3)).off + 1, none⟩ = some (.int .i64 r1) ∧ wx.cell? ⟨(ad.add (jm * 3)).block, (ad.add (jm * 3)).off + 2, none⟩ = some (.int .i64 r2) ∧ wx.cell? (bd.add (jk * 3)) = some (.int .i64 r0) ∧ wx.cell? ⟨(bd.add (jk * 3)).block, (bd.add (jk * 3)).off + 1, none⟩ = some (.int .i64 r1) ∧ wx.cell? ⟨(bd.add (jk * 3)).block, (bd.add (jk * 3)).off + 2, none⟩ = some (.int .i64 r2))) (by kernel_rfl) (HS.out _ (below_drewN HB 1)) (fun hHeld => ?_)
              refine wpAnyH_ready (rs := [0]) (by kernel_rfl) (by simp) ?_
              refine AllReadyH.cons rfl (fun K hK => ?_) AllReadyH.nil
              go_simp
              refine (alive13_any _).mono ?_; rintro e wx ⟨rfl, hb⟩; have HB := HB.trans ((by first | exact hb | exact below_undrew hb : Below _ _ _).mono HB.size)
              first | (refine hK.out _ _ (HS.out _ HB) (fun hHeld => ?_)) | (go_wp2_with fail; refine hK.out _ _ (HS.out _ HB) (fun hHeld => ?_))
              clear hK K
              try simp only [Act.put, List.setIfInBounds_toArray, List.set_cons_zero, List.set_cons_succ]
              refine take_at 1 (some 97) (v := ?_) rfl (by kernel_rfl) (by kernel_rfl) (by kernel_rfl) (by kernel_rfl) (fun _ _ _ h => h) (Or.inl ⟨by kernel_rfl, ?_⟩) (by assumption) ?_
              rotate_left
              · (intro w hSw; (try dsimp only at hSw); go_simp; try with_reducible rfl)
              try simp only [Act.put, List.setIfInBounds_toArray, List.set_cons_zero, List.set_cons_succ]
              refine take_at 2 (some 98) (v := ?_) rfl (by kernel_rfl) (by kernel_rfl) (by kernel_rfl) (by kernel_rfl) (fun _ _ _ h => h) (Or.inl ⟨by kernel_rfl, ?_⟩) (by assumption) ?_
              rotate_left
              · (intro w hSw; (try dsimp only at hSw); go_simp; try with_reducible rfl)
              try simp only [Act.put, List.setIfInBounds_toArray, List.set_cons_zero, List.set_cons_succ]
              refine take_at 3 (some 99) (v := ?_) rfl (by kernel_rfl) (by kernel_rfl) (by kernel_rfl) (by kernel_rfl) (fun _ _ _ h => h) (Or.inl ⟨by kernel_rfl, ?_⟩) (by assumption) ?_
              rotate_left
              · (intro w hSw; (try dsimp only at hSw); go_simp; try with_reducible rfl)
              try simp only [Act.put, List.setIfInBounds_toArray, List.set_cons_zero, List.set_cons_succ]
              refine take_at 4 (some 100) (v := ?_) rfl (by kernel_rfl) (by kernel_rfl) (by kernel_rfl) (by kernel_rfl) (fun _ _ _ h => h) (Or.inl ⟨by kernel_rfl, ?_⟩) (by assumption) ?_
              rotate_left
              · (intro w hSw; (try dsimp only at hSw); go_simp; try with_reducible rfl)
              try simp only [Act.put, List.setIfInBounds_toArray, List.set_cons_zero, List.set_cons_succ]
              refine take_at 5 (some 101) (v := ?_) rfl (by kernel_rfl) (by kernel_rfl) (by kernel_rfl) (by kernel_rfl) (fun _ _ _ h => h) (Or.inl ⟨by kernel_rfl, ?_⟩) (by assumption) ?_
              rotate_left
              · (intro w hSw; (try dsimp only at hSw); go_simp; try with_reducible rfl)
              try simp only [Act.put, List.setIfInBounds_toArray, List.set_cons_zero, List.set_cons_succ]
              refine take_at 6 (some 102) (v := ?_) rfl (by kernel_rfl) (by kernel_rfl) (by kernel_rfl) (by kernel_rfl) (fun _ _ _ h => h) (Or.inl ⟨by kernel_rfl, ?_⟩) (by assumption) ?_
              rotate_left
              · (intro w hSw; (try dsimp only at hSw); go_simp; try with_reducible rfl)
              try simp only [Act.put, List.setIfInBounds_toArray, List.set_cons_zero, List.set_cons_succ]
              refine take_at 7 (some 103) (v := ?_) rfl (by kernel_rfl) (by kernel_rfl) (by kernel_rfl) (by kernel_rfl) (fun _ _ _ h => h) (Or.inl ⟨by kernel_rfl, ?_⟩) (by assumption) ?_
              rotate_left
              · (intro w hSw; (try dsimp only at hSw); go_simp; try with_reducible rfl)
              try simp only [Act.put, List.setIfInBounds_toArray, List.set_cons_zero, List.set_cons_succ]
              refine take_at 8 (some 104) (v := ?_) rfl (by kernel_rfl) (by kernel_rfl) (by kernel_rfl) (by kernel_rfl) (fun _ _ _ h => h) (Or.inl ⟨by kernel_rfl, ?_⟩) (by assumption) ?_
              rotate_left
              · (intro w hSw; (try dsimp only at hSw); go_simp; try with_reducible rfl)
              try simp only [Act.put, List.setIfInBounds_toArray, List.set_cons_zero, List.set_cons_succ]
              refine take_at 9 (some 105) (v := ?_) rfl (by kernel_rfl) (by kernel_rfl) (by kernel_rfl) (by kernel_rfl) (fun _ _ _ h => h) (Or.inl ⟨by kernel_rfl, ?_⟩) (by assumption) ?_
              rotate_left
              · (intro w hSw; (try dsimp only at hSw); go_simp; try with_reducible rfl)
              try simp only [Act.put, List.setIfInBounds_toArray, List.set_cons_zero, List.set_cons_succ]
              refine take_at 10 (some 106) (v := ?_) rfl (by kernel_rfl) (by kernel_rfl) (by kernel_rfl) (by kernel_rfl) (fun _ _ _ h => h) (Or.inl ⟨by kernel_rfl, ?_⟩) (by assumption) ?_
              rotate_left
              · (intro w hSw; (try dsimp only at hSw); go_simp; try with_reducible rfl)
              try simp only [Act.put, List.setIfInBounds_toArray, List.set_cons_zero, List.set_cons_succ]
              refine take_at 11 (some 107) (v := ?_) rfl (by kernel_rfl) (by kernel_rfl) (by kernel_rfl) (by kernel_rfl) (fun _ _ _ h => h) (Or.inl ⟨by kernel_rfl, ?_⟩) (by assumption) ?_
              rotate_left
              · (intro w hSw; (try dsimp only at hSw); go_simp; try with_reducible rfl)
              try simp only [Act.put, List.setIfInBounds_toArray, List.set_cons_zero, List.set_cons_succ]
              refine take_at 12 (some 108) (v := ?_) rfl (by kernel_rfl) (by kernel_rfl) (by kernel_rfl) (by kernel_rfl) (fun _ _ _ h => h) (Or.inl ⟨by kernel_rfl, ?_⟩) (by assumption) ?_
              rotate_left
              · (intro w hSw; (try dsimp only at hSw); go_simp; try with_reducible rfl)
              try simp only [Act.put, List.setIfInBounds_toArray, List.set_cons_zero, List.set_cons_succ]
              refine take_at 13 (some 109) (v := ?_) rfl (by kernel_rfl) (by kernel_rfl) (by kernel_rfl) (by kernel_rfl) (fun _ _ _ h => h) (Or.inl ⟨by kernel_rfl, ?_⟩) (by assumption) ?_
              rotate_left
              · (intro w hSw; (try dsimp only at hSw); go_simp; try with_reducible rfl)
              try simp only [Act.put, List.setIfInBounds_toArray, List.set_cons_zero, List.set_cons_succ]
              refine take_at 14 (some 110) (v := ?_) rfl (by kernel_rfl) (by kernel_rfl) (by kernel_rfl) (by kernel_rfl) (fun _ _ _ h => h) (Or.inl ⟨by kernel_rfl, ?_⟩) (by assumption) ?_
              rotate_left
              · (intro w hSw; (try dsimp only at hSw); go_simp; try with_reducible rfl)
              try simp only [Act.put, List.setIfInBounds_toArray, List.set_cons_zero, List.set_cons_succ]
              refine take_at 15 (some 111) (v := ?_) rfl (by kernel_rfl) (by kernel_rfl) (by kernel_rfl) (by kernel_rfl) (fun _ _ _ h => h) (Or.inl ⟨by kernel_rfl, ?_⟩) (by assumption) ?_
              rotate_left
              · (intro w hSw; (try dsimp only at hSw); go_simp; try with_reducible rfl)
              try simp only [Act.put, List.setIfInBounds_toArray, List.set_cons_zero, List.set_cons_succ]
              refine take_at 16 (some 112) (v := ?_) rfl (by kernel_rfl) (by kernel_rfl) (by kernel_rfl) (by kernel_rfl) (fun _ _ _ h => h) (Or.inl ⟨by kernel_rfl, ?_⟩) (by assumption) ?_
              rotate_left
              · (intro w hSw; (try dsimp only at hSw); go_simp; try with_reducible rfl)
              try simp only [Act.put, List.setIfInBounds_toArray, List.set_cons_zero, List.set_cons_succ]
              refine take_at 17 (some 113) (v := ?_) rfl (by kernel_rfl) (by kernel_rfl) (by kernel_rfl) (by kernel_rfl) (fun _ _ _ h => h) (Or.inl ⟨by kernel_rfl, ?_⟩) (by assumption) ?_
              rotate_left
              · (intro w hSw; (try dsimp only at hSw); go_simp; try with_reducible rfl)
              try simp only [Act.put, List.setIfInBounds_toArray, List.set_cons_zero, List.set_cons_succ]
              refine take_at 18 (some 114) (v := ?_) rfl (by kernel_rfl) (by kernel_rfl) (by kernel_rfl) (by kernel_rfl) (fun _ _ _ h => h) (Or.inl ⟨by kernel_rfl, ?_⟩) (by assumption) ?_
              rotate_left
              · (intro w hSw; (try dsimp only at hSw); go_simp; try with_reducible rfl)
              try simp only [Act.put, List.setIfInBounds_toArray, List.set_cons_zero, List.set_cons_succ]
              refine take_at 19 (some 115) (v := ?_) rfl (by kernel_rfl) (by kernel_rfl) (by kernel_rfl) (by kernel_rfl) (fun _ _ _ h => h) (Or.inl ⟨by kernel_rfl, ?_⟩) (by assumption) ?_
              rotate_left
              · (intro w hSw; (try dsimp only at hSw); go_simp; try with_reducible rfl)
              try simp only [Act.put, List.setIfInBounds_toArray, List.set_cons_zero, List.set_cons_succ]
              refine take_at 20 (some 116) (v := ?_) rfl (by kernel_rfl) (by kernel_rfl) (by kernel_rfl) (by kernel_rfl) (fun _ _ _ h => h) (Or.inl ⟨by kernel_rfl, ?_⟩) (by assumption) ?_
              rotate_left
              · (intro w hSw; (try dsimp only at hSw); go_simp; try with_reducible rfl)
              try simp only [Act.put, List.setIfInBounds_toArray, List.set_cons_zero, List.set_cons_succ]
              refine take_at 21 (some 117) (v := ?_) rfl (by kernel_rfl) (by kernel_rfl) (by kernel_rfl) (by kernel_rfl) (fun _ _ _ h => h) (Or.inl ⟨by kernel_rfl, ?_⟩) (by assumption) ?_
              rotate_left
              · (intro w hSw; (try dsimp only at hSw); go_simp; try with_reducible rfl)
              try simp only [Act.put, List.setIfInBounds_toArray, List.set_cons_zero, List.set_cons_succ]
              refine take_at 22 (some 118) (v := ?_) rfl (by kernel_rfl) (by kernel_rfl) (by kernel_rfl) (by kernel_rfl) (fun _ _ _ h => h) (Or.inl ⟨by kernel_rfl, ?_⟩) (by assumption) ?_
              rotate_left
              · (intro w hSw; (try dsimp only at hSw); go_simp; try with_reducible rfl)
              try simp only [Act.put, List.setIfInBounds_toArray, List.set_cons_zero, List.set_cons_succ]
              refine take_at 23 (some 119) (v := ?_) rfl (by kernel_rfl) (by kernel_rfl) (by kernel_rfl) (by kernel_rfl) (fun _ _ _ h => h) (Or.inl ⟨by kernel_rfl, ?_⟩) (by assumption) ?_
              rotate_left
              · (intro w hSw; (try dsimp only at hSw); go_simp; try with_reducible rfl)
              try simp only [Act.put, List.setIfInBounds_toArray, List.set_cons_zero, List.set_cons_succ]
              refine take_at 24 (some 120) (v := ?_) rfl (by kernel_rfl) (by kernel_rfl) (by kernel_rfl) (by kernel_rfl) (fun _ _ _ h => h) (Or.inl ⟨by kernel_rfl, ?_⟩) (by assumption) ?_
              rotate_left
              · (intro w hSw; (try dsimp only at hSw); go_simp; try with_reducible rfl)
              try simp only [Act.put, List.setIfInBounds_toArray, List.set_cons_zero, List.set_cons_succ]
              refine take_at 25 (some 121) (v := ?_) rfl (by kernel_rfl) (by kernel_rfl) (by kernel_rfl) (by kernel_rfl) (fun _ _ _ h => h) (Or.inl ⟨by kernel_rfl, ?_⟩) (by assumption) ?_
              rotate_left
              · (intro w hSw; (try dsimp only at hSw); go_simp; try with_reducible rfl)
              try simp only [Act.put, List.setIfInBounds_toArray, List.set_cons_zero, List.set_cons_succ]
              refine take_at 26 (some 122) (v := ?_) rfl (by kernel_rfl) (by kernel_rfl) (by kernel_rfl) (by kernel_rfl) (fun _ _ _ h => h) (Or.inl ⟨by kernel_rfl, ?_⟩) (by assumption) ?_
              rotate_left
              · (intro w hSw; (try dsimp only at hSw); go_simp; try with_reducible rfl)
              try simp only [Act.put, List.setIfInBounds_toArray, List.set_cons_zero, List.set_cons_succ]
              refine take_at 27 (some 123) (v := ?_) rfl (by kernel_rfl) (by kernel_rfl) (by kernel_rfl) (by kernel_rfl) (fun _ _ _ h => h) (Or.inl ⟨by kernel_rfl, ?_⟩) (by assumption) ?_
              rotate_left
              · (intro w hSw; (try dsimp only at hSw); go_simp; try with_reducible rfl)
              try simp only [Act.put, List.setIfInBounds_toArray, List.set_cons_zero, List.set_cons_succ]
              refine take_at 28 (some 124) (v := ?_) rfl (by kernel_rfl) (by kernel_rfl) (by kernel_rfl) (by kernel_rfl) (fun _ _ _ h => h) (Or.inl ⟨by kernel_rfl, ?_⟩) (by assumption) ?_
              rotate_left
              · (intro w hSw; (try dsimp only at hSw); go_simp; try with_reducible rfl)
              try simp only [Act.put, List.setIfInBounds_toArray, List.set_cons_zero, List.set_cons_succ]
              refine take_at 29 (some 2) (v := ?_) rfl (by kernel_rfl) (by kernel_rfl) (by kernel_rfl) (by kernel_rfl) (fun _ _ _ h => h) (Or.inl ⟨by kernel_rfl, ?_⟩) (by assumption) ?_
              rotate_left
              · (intro w hSw; (try dsimp only at hSw); go_simp; try with_reducible rfl)
              try simp only [Act.put, List.setIfInBounds_toArray, List.set_cons_zero, List.set_cons_succ]
              refine wpAnyH_done (by kernel_rfl) ?_ _
              go_wp2_with fail
              go_ret
              exact ⟨rfl, Hb0.out.trans ((Hbq.out.trans (HB.mono Hbq.out.size)).mono (by have := Hb0.out.size; omega))⟩
  · by_cases h1 : a0 < 0
    · clear hc
      go_enter Try.func4, Try.ntmps4
      go_wp2_with fail
      refine (alive13_any _).mono ?_; rintro e w1 ⟨rfl, hb1⟩
      go_wp2_with fail
      go_ret
      exact ⟨rfl, hb1⟩
    · have h2 : 0 ≤ a0 := by omega
      have h3 : 100 < a0 := by omega
      clear hc
      go_enter Try.func4, Try.ntmps4
      go_wp2_with fail
      refine (alive13_any _).mono ?_; rintro e w1 ⟨rfl, hb1⟩
      go_wp2_with fail
      go_ret
      exact ⟨rfl, hb1⟩
end Go.Proofs.Ytfkkcgdniepgoaa
