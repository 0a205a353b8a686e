/- chapter 12: Add. -/
import Derived.Test.YtfjilngofdahgaaTab
import Derived.Deep.RegionHeld3
namespace Go.Proofs.Ytfjilngofdahgaa
open Go.RowKit
set_option maxHeartbeats 4000000
set_option maxRecDepth 100000
set_option linter.unusedVariables false

/-- of the blocks that were, just the tab's and its row's may have turned -/
structure TabStep (w w' : World) (T : Nat) (r r' : Option Nat) : Prop where
  os : w'.os = w.os
  tape : w'.tape = w.tape
  output : w'.output = w.output
  size : w.heap.size ≤ w'.heap.size
  block : ∀ k, k < w.heap.size → k ≠ T → some k ≠ r → w'.heap[k]? = w.heap[k]?
  row : r' = r ∨ ∃ g, r' = some g ∧ w.heap.size ≤ g
theorem TabStep.refl (w : World) (T : Nat) (r : Option Nat) : TabStep w w T r r := ⟨rfl, rfl, rfl, Nat.le_refl _, fun _ _ _ _ => rfl, .inl rfl⟩
theorem TabStep.trans {w w1 w2 : World} {T : Nat} {r r1 r2 : Option Nat} (h : TabStep w w1 T r r1) (k : TabStep w1 w2 T r1 r2) : TabStep w w2 T r r2 where
  os := k.os.trans h.os
  tape := k.tape.trans h.tape
  output := k.output.trans h.output
  size := Nat.le_trans h.size k.size
  block := fun j hj h1 h2 => (k.block j (Nat.lt_of_lt_of_le hj h.size) h1 (by
    rcases h.row with h3 | ⟨g, h3, h4⟩
    · rw [h3]; exact h2
    · rw [h3]; intro h5; injection h5 with h5; omega)).trans (h.block j hj h1 h2)
  row := by
    rcases k.row with h3 | ⟨g, h3, h4⟩
    · rw [h3]; exact h.row
    · exact .inr ⟨g, h3, Nat.le_trans h.size h4⟩
theorem TabStep.of_below {w w' : World} {T : Nat} {r : Option Nat} (h : Below w.heap.size w w') : TabStep w w' T r r := by
  exact ⟨h.os, h.tape, h.output, h.size, fun k hk _ _ => h.block k hk, .inl rfl⟩
theorem TabIs.below {w w' : World} {base T : Nat} {r : Option Nat} {l : List En} (h : TabIs w base T r l) (hb : Below w.heap.size w w') : TabIs w' base T r l := by
  obtain ⟨v, h1, h2, h3, h4⟩ := h
  exact ⟨v, h1.below hb h1.lt, own_below h2 hb (fun q hq => (h2.lt q hq).2), h3, h4⟩

theorem add_any (base T : Nat) (r : Option Nat) (l ps : List En) (A : Option Addr) (n c : Nat) (w : World) (ht : TabIs w base T r l) (hs : SortedE l) (hr : SlR w w.heap.size 3 A n (enVs ps)) (hap : 0 < n → ∀ ad, A = some ad → ad.block ≠ T ∧ some ad.block ≠ r) (hbase : base ≤ w.heap.size) (hn : l.length + n ≤ 1000000) :
    Calls Try.prog 15 #[.pointer (some ⟨T, 0, none⟩), .slice A n c] w fun x w' => x = .returned (.int .i64 (((addsE l ps).length : Int) - (l.length : Int))) ∧ ∃ r', TabIs w' base T r' (addsE l ps) ∧ TabStep w w' T r r' := by
  have hl : ps.length = n := by have := hr.len; rw [enVs_length] at this; omega
  have Hr := Lib.hid hr; have Hl := Lib.hid hl; have Hap := Lib.hid hap; have Hs := Lib.hid hs; have Ht := Lib.hid ht
  clear hr hl hap hs ht
  go_enter Try.func15, Try.ntmps15
  go_wp2_with fail
  go_loopw [5, 14] (fun o i wr => ∃ (k : Nat) (r1 : Option Nat), o = .int .i64 (((addsE l (ps.take k)).length : Int) - (l.length : Int)) ∧ k ≤ n ∧ i = .int .i64 (k : Int) ∧ TabIs wr base T r1 (addsE l (ps.take k)) ∧ TabStep w wr T r r1) (fun _ i _ => n - (intOf i).toNat)
  case atStart => exact ⟨0, r, by simp [addsE], Nat.zero_le _, rfl, Ht.out, TabStep.refl _ _ _⟩
  case round =>
    obtain ⟨k, r1, rfl, hk, rfl, ht1, hst⟩ := hrel
    by_cases hlt : k < n
    · obtain ⟨ad, ⟨p0, p1, p2⟩, rfl, hadB, hpq, hat⟩ := Hr.out.en (k := k) (by omega)
      obtain ⟨hap1, hap2⟩ := Hap.out (by omega) ad rfl
      have hblk : wr.heap[ad.block]? = w.heap[ad.block]? := hst.block _ hadB hap1 hap2
      have hat1 : enAt wr (ad.add (k * 3)) (p0, p1, p2) := by
        have hx : ∀ o, wr.cell? ⟨(ad.add (k * 3)).block, o, none⟩ = w.cell? ⟨(ad.add (k * 3)).block, o, none⟩ := fun o => World.cell?_of_block (w := w) (w' := wr) (a := ⟨(ad.add (k * 3)).block, o, none⟩) (by show wr.heap[(ad.add (k * 3)).block]? = _; rw [add_block]; exact hblk)
        refine ⟨?_, (hx _).trans hat.2.1, (hx _).trans hat.2.2⟩
        exact (World.cell?_of_block (w := w) (w' := wr) (a := ad.add (k * 3)) (by rw [add_block]; exact hblk)).trans hat.1
      obtain ⟨hc0, hc1, hc2⟩ := hat1
      dsimp only at hc0 hc1 hc2
      have hsn : addsE l (ps.take (k + 1)) = insE (addsE l (ps.take k)) (p0, p1, p2) := by
        rw [List.take_add_one, hpq]; exact adds_snoc _ _ _
      have hso := adds_sorted Hs.out (ps.take k)
      have hle := adds_le l (ps.take k)
      have htk : (ps.take k).length = k := by rw [List.length_take, Hl.out]; omega
      rw [htk] at hle
      generalize addsE l (ps.take k) = L at hsn hso hle ht1 ⊢
      obtain ⟨W, hW⟩ : ∃ W, wr.alloc (.cells #[.int .i64 p0, .int .i64 p1, .int .i64 p2] 27) = W := ⟨_, rfl⟩
      have hb1 : Below wr.heap.size wr W := by rw [← hW]; exact (Below.refl _ _).alloc (Nat.le_refl _) _
      have hE : BlkIs W wr.heap.size 27 #[.int .i64 p0, .int .i64 p1, .int .i64 p2] := by rw [← hW]; exact BlkIs.new _ _ _
      have ht2 := ht1.below hb1
      obtain ⟨v, hvB, hown, hvr, hrT⟩ := ht2
      obtain ⟨Ar, cr, rfl, hncr⟩ := own_slice hown
      have hS0 : ∀ wx, Below W.heap.size W wx → wx.cell? ⟨T, 0, none⟩ = some (.slice Ar L.length cr) ∧ wx.cell? ⟨wr.heap.size, 0, none⟩ = some (.int .i64 p0) ∧ wx.cell? ⟨wr.heap.size, 1, none⟩ = some (.int .i64 p1) ∧ wx.cell? ⟨wr.heap.size, 2, none⟩ = some (.int .i64 p2) := fun wx h => by
        have f1 := (hvB.below h hvB.lt).cell 0; have f2 := (hE.below h hE.lt).cell
        exact ⟨f1, f2 0, f2 1, f2 2⟩
      have hsr0 : ∀ wx, Below W.heap.size W wx → Calls Try.prog 34 #[.slice Ar L.length cr, .agg #[.int .i64 p0, .int .i64 p1, .int .i64 p2], .func (.func 35) #[] #[]] wx fun x w' => x = .returned (.tuple #[.int .i64 (rankE L (p0, p1, p2) : Nat), .bool (hasE L (p0, p1, p2))]) ∧ Below wx.heap.size wx w' := fun wx h =>
        search_any Ar L.length cr W.heap.size L (p0, p1, p2) wx ((SlR.own hown).below h) h.size hso (by omega)
      have hcE := hE.cell
      have hc10 := hcE 0; have hc11 := hcE 1; have hc12 := hcE 2
      have HS := Lib.hid hS0; have Hsr := Lib.hid hsr0
      have hlt' : (k : Int) < n := by omega
      have Hsn := Lib.hid hsn; have Hso := Lib.hid hso; have Ht1 := Lib.hid ht1; have Hst := Lib.hid hst; have Hb1 := Lib.hid hb1; have HE := Lib.hid hE; have HvB := Lib.hid hvB; have Hown := Lib.hid hown; have Hvr := Lib.hid hvr; have HrT := Lib.hid hrT
      clear hsn hso ht1 hst hb1 hE hvB hown hvr hrT hS0 hsr0 hcE hc10 hc11 hc12 hat hpq hap1 hap2 hblk htk
      have HB := Below.refl W.heap.size W
      have hS := HS.out _ HB
      go_wp2_with fail
      go_region_held3 (fun wx => wx.cell? ⟨T, 0, none⟩ = some (.slice Ar L.length cr) ∧ wx.cell? ⟨wr.heap.size, 0, none⟩ = some (.int .i64 p0) ∧ wx.cell? ⟨wr.heap.size, 1, none⟩ = some (.int .i64 p1) ∧ wx.cell? ⟨wr.heap.size, 2, none⟩ = some (.int .i64 p2)) (first | exact hS | go_keep) ((first
        | (go_at_call 34; refine (Hsr.out _ (by first | exact HB | exact below_drewN HB 1)).mono ?_; rintro x wx ⟨rfl, hb⟩; have HB := HB.trans ((by first | exact hb | exact below_undrew hb : Below _ _ _).mono HB.size); have hS := HS.out _ HB)))
      have hins1 : hasE L (p0, p1, p2) = true → insE L (p0, p1, p2) = L := fun h => by unfold insE newE; rw [h]; rfl
      have hins2 : ¬ (0 ≤ p0 ∧ 0 ≤ p1 ∧ 0 ≤ p2) → insE L (p0, p1, p2) = L := fun h => by
        have hok : okE (p0, p1, p2) = false := by unfold okE; exact decide_eq_false h
        unfold insE newE
        rw [hok, Bool.and_false]
        rfl
      have hins3 : hasE L (p0, p1, p2) = false → 0 ≤ p0 ∧ 0 ≤ p1 ∧ 0 ≤ p2 → insE L (p0, p1, p2) = L.take (rankE L (p0, p1, p2)) ++ (p0, p1, p2) :: L.drop (rankE L (p0, p1, p2)) := fun h h' => by
        have hok : okE (p0, p1, p2) = true := by unfold okE; exact decide_eq_true h'
        unfold insE newE
        rw [h, hok]
        rfl
      have hrk := rank_le L (p0, p1, p2)
      have Hins1 := Lib.hid hins1; have Hins2 := Lib.hid hins2; have Hins3 := Lib.hid hins3
      clear hins1 hins2 hins3
      have hskip : insE L (p0, p1, p2) = L → addsE l (ps.take (k + 1)) = L := fun h => Hsn.out.trans h
      have Hskip := Lib.hid hskip
      clear hskip
      generalize rankE L (p0, p1, p2) = rk at Hins3 hrk ⊢
      generalize hasE L (p0, p1, p2) = hh at Hins1 Hins3 ⊢
      obtain ⟨s1, s2, s3, s4⟩ := hS
      have hend : ∀ wx, Below W.heap.size W wx → TabIs wx base T r1 L ∧ TabStep w wx T r r1 := fun wx h => by
        refine ⟨?_, Hst.out.trans (TabStep.of_below (Hb1.out.trans (h.mono Hb1.out.size)))⟩
        exact TabIs.below ⟨_, HvB.out, Hown.out, Hvr.out, HrT.out⟩ h
      have Hend := Lib.hid hend
      clear hend
      cases hh with
      | true =>
        go_wp2_with fail
        go_roundw
        case rel =>
          have h1 := Hskip.out (Hins1.out rfl)
          exact ⟨k + 1, r1, by rw [h1], by omega, by go_num, by rw [h1]; exact (Hend.out _ (by first | exact HB | exact below_drewN HB 1)).1, (Hend.out _ (by first | exact HB | exact below_drewN HB 1)).2⟩
        case measure => simp [intOf]; omega
      | false =>
        by_cases h0 : 0 ≤ p0
        · by_cases h1 : 0 ≤ p1
          · by_cases h2 : 0 ≤ p2
            · have Hq := Lib.hid (Hsn.out.trans (Hins3.out rfl ⟨h0, h1, h2⟩))
              have hins : ∀ wy, Below W.heap.size W wy → Calls Try.prog 36 #[.slice Ar L.length cr, .int .i64 rk, .slice (some ⟨wy.heap.size, 0, none⟩) 1 1] (wy.alloc (.cells #[.int .i64 p0, .int .i64 p1, .int .i64 p2] 27)).drew fun x w5 => ∃ v', x = .returned v' ∧
                  w5.ownsRow base 27 3 v' (L.length + 1) (enVs (L.take rk ++ (p0, p1, p2) :: L.drop rk)) ∧ BlkIs w5 T 59 #[.slice Ar L.length cr] ∧ TabStep wy w5 T r1 v'.ownBlock ∧ v'.ownBlock ≠ some T ∧ (w5.cell? ⟨T, 0, none⟩ = some (.slice Ar L.length cr) ∧ w5.cell? ⟨wr.heap.size, 0, none⟩ = some (.int .i64 p0) ∧ w5.cell? ⟨wr.heap.size, 1, none⟩ = some (.int .i64 p1) ∧ w5.cell? ⟨wr.heap.size, 2, none⟩ = some (.int .i64 p2)) := fun wy hy => by
                have q1 : Below wy.heap.size wy (wy.alloc (.cells #[.int .i64 p0, .int .i64 p1, .int .i64 p2] 27)).drew := below_drewN ((Below.refl _ _).alloc (Nat.le_refl _) (.cells #[.int .i64 p0, .int .i64 p1, .int .i64 p2] 27)) 1
                have q2 := hy.trans (q1.mono hy.size)
                have hTlt := HvB.out.lt
                have hownlt := Hown.out.lt
                have q3 := own_below Hown.out q2 (fun q hq => (Hown.out.lt q hq).2)
                have q4 : BlkIs (wy.alloc (.cells #[.int .i64 p0, .int .i64 p1, .int .i64 p2] 27)).drew wy.heap.size 27 #[.int .i64 p0, .int .i64 p1, .int .i64 p2] := BlkIs.new wy _ _
                have hbs : base ≤ wy.heap.size := Nat.le_trans hbase (Nat.le_trans Hst.out.size (Nat.le_trans Hb1.out.size hy.size))
                have hvr := Hvr.out
                refine (insert_any base rk L.length wy.heap.size _ L (p0, p1, p2) _ q3 q4 (by intro h; have := (hownlt _ h.symm).2; have := hy.size; omega) hrk (by omega) (by simp; omega)).mono ?_
                rintro x w5 ⟨v', rfl, h1, h2, h3⟩
                have hT5 : BlkIs w5 T 59 #[.slice Ar L.length cr] := by
                  have hTy := HvB.out.below q2 HvB.out.lt
                  have := h2.block T hTy.lt (by rw [hvr]; exact fun h => HrT.out h.symm)
                  unfold BlkIs
                  rw [this]
                  exact hTy
                have hE5 : BlkIs w5 wr.heap.size 27 #[.int .i64 p0, .int .i64 p1, .int .i64 p2] := by
                  have hEy := HE.out.below q2 HE.out.lt
                  obtain ⟨v0, g1, g2, g3, _⟩ := Ht1.out
                  have := h2.block wr.heap.size hEy.lt (by rw [hvr]; intro h; have := (g2.lt _ (g3.trans h.symm)).2; omega)
                  unfold BlkIs
                  rw [this]
                  exact hEy
                have hS5 := (⟨hT5.cell 0, hE5.cell 0, hE5.cell 1, hE5.cell 2⟩ : w5.cell? ⟨T, 0, none⟩ = some (.slice Ar L.length cr) ∧ w5.cell? ⟨wr.heap.size, 0, none⟩ = some (.int .i64 p0) ∧ w5.cell? ⟨wr.heap.size, 1, none⟩ = some (.int .i64 p1) ∧ w5.cell? ⟨wr.heap.size, 2, none⟩ = some (.int .i64 p2))
                refine ⟨v', rfl, h1, hT5, ⟨h2.os.trans q1.os, h2.tape.trans q1.tape, h2.output.trans q1.output, Nat.le_trans q1.size h2.size, fun j hj hj1 hj2 => (h2.block j (by simp; omega) (by rw [hvr]; exact hj2)).trans (q1.block j hj), ?_⟩, ?_, hS5⟩
                · rcases h3 with h3 | h3
                  · exact .inl (h3.trans hvr)
                  · exact .inr ⟨_, h3, by simp⟩
                · rcases h3 with h3 | h3
                  · rw [h3, hvr]; exact HrT.out
                  · rw [h3]; intro h; injection h with h; have := hy.size; simp at h; omega
              have Hins := Lib.hid hins
              clear hins
              go_wp2_with fail
              have hTx := Nat.lt_of_lt_of_le HvB.out.lt HB.size
              have hEx := Nat.lt_of_lt_of_le HE.out.lt HB.size
              go_region_law (go_simp; go_at_call 36; refine (Hins.out _ (by first | exact HB | exact below_drewN HB 1)).mono ?_; rintro x w5 ⟨v', rfl, hown5, hT5, hst5, hne5, hS⟩; have hf5 := hT5.free 0; obtain ⟨A5, c5, rfl, hnc5⟩ := own_slice hown5; obtain ⟨s5, _, _, _⟩ := id hS)
              all_goals
                have hq := Hq.out
                have hql : (addsE l (ps.take (k + 1))).length = L.length + 1 := by rw [hq, List.length_append, List.length_cons, List.length_take, List.length_drop]; omega
                have hst6 := Hst.out.trans ((TabStep.of_below (Hb1.out.trans (HB.mono Hb1.out.size))).trans hst5)
                have hT6 := hT5.put 0 (.slice A5 (L.length + 1) c5)
                have hown6 := own_far hown5 (a := ⟨T, 0, none⟩) hne5 (.slice A5 (L.length + 1) c5)
                have Hql := Lib.hid hql
                clear hq hql
                go_wp2_with fail
                go_roundw
                case rel =>
                  refine ⟨k + 1, (Value.slice A5 (L.length + 1) c5).ownBlock, ?_, by omega, by go_num, ⟨_, hT6, ?_, rfl, hne5⟩, hst6.trans ⟨rfl, rfl, rfl, by simp, fun j _ hj _ => heap_setCell_other _ _ _ _ (by exact hj), .inl rfl⟩⟩
                  · rw [Hql.out]; congr 1; omega
                  · rw [Hql.out, Hq.out]; exact hown6
                case measure => simp [intOf]; omega
            · have h2' : decide (0 ≤ p2) = false := decide_eq_false h2
              go_wp2_with fail
              go_roundw
              case rel =>
                have h1 := Hskip.out (Hins2.out (fun q => h2 q.2.2))
                exact ⟨k + 1, r1, by rw [h1], by omega, by go_num, by rw [h1]; exact (Hend.out _ (by first | exact HB | exact below_drewN HB 1)).1, (Hend.out _ (by first | exact HB | exact below_drewN HB 1)).2⟩
              case measure => simp [intOf]; omega
          · have h1' : decide (0 ≤ p1) = false := decide_eq_false h1
            go_wp2_with fail
            go_roundw
            case rel =>
              have h1 := Hskip.out (Hins2.out (fun q => h1 q.2.1))
              exact ⟨k + 1, r1, by rw [h1], by omega, by go_num, by rw [h1]; exact (Hend.out _ (by first | exact HB | exact below_drewN HB 1)).1, (Hend.out _ (by first | exact HB | exact below_drewN HB 1)).2⟩
            case measure => simp [intOf]; omega
        · have h0' : decide (0 ≤ p0) = false := decide_eq_false h0
          go_wp2_with fail
          go_roundw
          case rel =>
            have h1 := Hskip.out (Hins2.out (fun q => h0 q.1))
            exact ⟨k + 1, r1, by rw [h1], by omega, by go_num, by rw [h1]; exact (Hend.out _ (by first | exact HB | exact below_drewN HB 1)).1, (Hend.out _ (by first | exact HB | exact below_drewN HB 1)).2⟩
          case measure => simp [intOf]; omega
    · obtain rfl : k = n := by omega
      have hd : decide ((k : Int) < (k : Int)) = false := by simp
      have htk : ps.take k = ps := List.take_of_length_le (Nat.le_of_eq Hl.out)
      rw [htk] at ht1 ⊢
      have Ht1 := Lib.hid ht1; have Hst := Lib.hid hst
      clear htk ht1 hst
      go_wp2_with fail
      go_ret
      exact ⟨rfl, r1, Ht1.out, Hst.out⟩
end Go.Proofs.Ytfjilngofdahgaa
