/- chapter 13: Open. -/
import Derived.Test.YtfjilngofdahgaaCIndexBytesTblRd
import Derived.Test.YtfjilngofdahgaaCIndexBytesTabInsert

namespace Go.Proofs.Ytfjilngofdahgaa
open Go.RowKit
set_option maxHeartbeats 8000000
set_option maxRecDepth 100000
set_option linter.unusedVariables false

/-- the table at block g: its entries in a row that nothing else owns -/
def TblIs (w : World) (base g : Nat) (l : List En) : Prop :=
  ∃ v, BlkIs w g 120 #[v] ∧ base ≤ g ∧ w.ownsRow base 27 3 v l.length (enVs l)
theorem openL_parts (l : List UInt8) : openL l = ([], 5) ∨ openL l = ([], 7) ∨ ∃ r, openL l = (r, 0) ∧ r.length ≤ l.length := by
  unfold openL
  split
  · exact .inl rfl
  · split
    · exact .inr (.inr ⟨_, rfl, by simp⟩)
    · exact .inr (.inl rfl)

theorem tblOpen_any (s : ByteArray) (w : World) (hs : s.size ≤ 20000000) :
    Calls Try.prog 84 #[.string s] w fun x w' => ∃ p, x = .returned (.tuple #[.pointer p, .int .i64 (openT s.data.toList).2]) ∧ ((openT s.data.toList).2 ≠ 0 → p = none) ∧ ((openT s.data.toList).2 = 0 → ∃ g, p = some ⟨g, 0, none⟩ ∧ TblIs w' w.heap.size g (openT s.data.toList).1) ∧ Below w.heap.size w w' := by
  obtain ⟨i0, hi0, hz0, hz1, hz2⟩ := info_parts info_en
  have hop := open_any s w (by omega)
  have hsl := size_list s
  rcases openL_parts s.data.toList with he | he | ⟨r, he, hrl⟩
  · have hv : openT s.data.toList = ([], 5) := by unfold openT; rw [he]; rfl
    have Hv := Lib.hid hv
    rw [he] at hop
    have Hop := Lib.hid hop
    clear hop he hv hsl
    go_enter Try.func84, Try.ntmps84
    go_wp2_with fail
    refine Hop.out.mono ?_
    rintro e w1 ⟨rfl, hb1⟩
    have Hb1 := Lib.hid hb1
    clear hb1
    go_wp2_with fail
    go_ret2
    rw [Hv.out]
    exact ⟨none, rfl, fun _ => rfl, fun h => absurd h (by decide), Hb1.out⟩
  · have hv : openT s.data.toList = ([], 7) := by unfold openT; rw [he]; rfl
    have Hv := Lib.hid hv
    rw [he] at hop
    have Hop := Lib.hid hop
    clear hop he hv hsl
    go_enter Try.func84, Try.ntmps84
    go_wp2_with fail
    refine Hop.out.mono ?_
    rintro e w1 ⟨rfl, hb1⟩
    have Hb1 := Lib.hid hb1
    clear hb1
    go_wp2_with fail
    go_ret2
    rw [Hv.out]
    exact ⟨none, rfl, fun _ => rfl, fun h => absurd h (by decide), Hb1.out⟩
  · by_cases h4 : r.length < 4
    · have hv : openT s.data.toList = ([], 6) := by unfold openT; rw [he]; dsimp only; rw [if_neg (by simp), if_pos h4]
      have Hv := Lib.hid hv
      rw [he] at hop
      have Hop := Lib.hid hop
      have hd4 : decide ((r.length : Int) < 4) = true := by simp; omega
      clear hop he hv hsl
      go_enter Try.func84, Try.ntmps84
      go_wp2_with fail
      refine Hop.out.mono ?_
      rintro e w1 ⟨rfl, hb1⟩
      have Hb1 := Lib.hid hb1
      clear hb1
      go_wp2_with fail
      go_ret2
      rw [Hv.out]
      exact ⟨none, rfl, fun _ => rfl, fun h => absurd h (by decide), Hb1.out⟩
    · have hv : openT s.data.toList = if endL (rdT (r.drop 4)).2.1 (rdT (r.drop 4)).2.2 ≠ 0 ∨ (buildT (rdT (r.drop 4)).1).2 ≠ 0 ∨ (buildT (rdT (r.drop 4)).1).1 ≠ s.data.toList then ([], 6) else ((rdT (r.drop 4)).1, 0) := by unfold openT; rw [he]; dsimp only; rw [if_neg (by simp), if_neg h4]
      have Hv := Lib.hid hv
      rw [he] at hop
      have Hop := Lib.hid hop
      have hd4 : decide ((r.length : Int) < 4) = false := by simp; omega
      have hr4 : (4 : Int) ≤ (r.length : Int) := by omega
      have hr4' : 4 ≤ r.length := by omega
      have e2 : (⟨r.toArray⟩ : ByteArray).extract 4 r.length = ⟨(r.drop 4).toArray⟩ := by rw [← size_mk r]; exact str_from _ _
      have hrl2 : r.length ≤ 20000000 := by omega
      clear hop he hv hsl
      go_enter Try.func84, Try.ntmps84
      go_wp2_with fail
      refine Hop.out.mono ?_
      rintro e w1 ⟨rfl, hb1⟩
      have Hb1 := Lib.hid hb1
      clear hb1
      go_wp2_with fail
      refine (newIn_any _ _ (by rw [size_mk, List.length_drop]; omega)).mono ?_
      rintro e w2 ⟨g, rfl, hI, hb2⟩
      have HI := Lib.hid hI
      have Hb2 := Lib.hid (Hb1.out.trans (hb2.mono Hb1.out.size))
      clear hI hb2
      go_wp2_with fail
      obtain ⟨q, hq⟩ : ∃ q, r.drop 4 = q := ⟨_, rfl⟩
      have hql : q.length ≤ 20000000 := by rw [← hq, List.length_drop]; omega
      rw [hq] at HI Hv
      have hIl : g < w2.heap.size := by have h := HI.out.lt; exact h
      have hI := HI.out.alloc (.cells #[.slice none 0 0] 120)
      have hT := BlkIs.new w2 120 #[.slice none 0 0]
      have HT := Lib.hid hT
      have hbd := (Hb2.out.alloc Hb2.out.size (.cells #[.slice none 0 0] 120))
      refine (inU32G g _ q 0 _ (by simpa using hI) (by omega)).mono ?_
      rintro e w3 ⟨rfl, hI3, hg3⟩
      have HI3 := Lib.hid hI3
      have HT3 := Lib.hid (HT.out.keptBy hg3 (by omega))
      have Hb3 := Lib.hid (hbd.grown hg3 (by simpa using hbd.size) (fun k hk => by injection hk with hk; rw [← hk]; have := HI.out.1; have := Hb1.out.size; omega))
      have hlt := inNum_lt 4 q 0
      have hrd : rdT q = ([] ++ (rdEns (inNum 4 q 0) (inTake 4 q 0).2.1 (inTake 4 q 0).2.2).1, (rdEns (inNum 4 q 0) (inTake 4 q 0).2.1 (inTake 4 q 0).2.2).2) := rfl
      obtain ⟨N, hN⟩ : ∃ N, inNum 4 q 0 = N := ⟨_, rfl⟩
      have hql3 : (inTake 4 q 0).2.1.length ≤ q.length := inTake_rest 4 q 0
      rw [hN] at hlt hrd
      have Hrd := Lib.hid hrd
      clear hrd hI3 hI hT hbd hg3 hq
      obtain ⟨b3, hb3⟩ : ∃ b3, (inTake 4 q 0).2.1 = b3 := ⟨_, rfl⟩
      obtain ⟨x3, hx3⟩ : ∃ x3, (inTake 4 q 0).2.2 = x3 := ⟨_, rfl⟩
      rw [hb3] at hql3
      rw [hb3, hx3] at HI3 Hrd
      rw [hN]
      clear hb3 hx3 hN
      obtain ⟨T, hTe⟩ : ∃ T, w2.heap.size = T := ⟨_, rfl⟩
      rw [hTe] at HT3 hIl ⊢
      clear HT HI
      go_wp2_with fail
      go_loopw [8] (fun i wr => ∃ (j : Nat) (acc : List En) (b : List UInt8) (x : Int) (v : Value), i = .int .i64 (j : Int) ∧ j ≤ N ∧ Hid (RdAt w wr w1.heap.size g T v acc b x ∧ rdT q = (acc ++ (rdEns j b x).1, (rdEns j b x).2) ∧ b.length ≤ q.length ∧ (x = 0 → 24 * acc.length + b.length ≤ q.length) ∧ acc.length ≤ 833335)) (fun i _ => (intOf i).toNat)
      case atStart => exact ⟨N, [], b3, x3, .slice none 0 0, rfl, Nat.le_refl _, Lib.hid ⟨⟨HI3.out, HT3.out, World.ownsRow_nil _ _ _ _, Hb3.out⟩, Hrd.out, hql3, fun _ => by simpa using hql3, by simp⟩⟩
      case round =>
        obtain ⟨j, acc, b, x, v, rfl, hjN, HL⟩ := hrel
        have hjN2 : j < 4294967296 := by omega
        by_cases hj : 0 < j
        · have hdj : decide (0 < (j : Int)) = true := by simp; omega
          by_cases hx : x = 0
          · subst hx
            have herr := inErr_any g w1.heap.size b 0 wr HL.out.1.inn
            have Herr := Lib.hid herr
            clear herr
            have hTg : T ≠ g := by omega
            have hbw : w.heap.size ≤ w1.heap.size := Hb1.out.size
            have hwT : w.heap.size ≤ T := by have := Hb2.out.size; omega
            have hbl : b.length ≤ 20000000 := Nat.le_trans HL.out.2.2.1 hql
            have hac : acc.length ≤ 833334 := by have := HL.out.2.2.2.1 rfl; omega
            have HF := Lib.hid HL.out.1.drewd
            have hc := HF.out.tab.cell 0
            obtain ⟨y0, hy0⟩ : ∃ y, i64L (inTake 8 b 0).1 = y := ⟨_, rfl⟩
            obtain ⟨y1, hy1⟩ : ∃ y, i64L (inTake 8 (inTake 8 b 0).2.1 (inTake 8 b 0).2.2).1 = y := ⟨_, rfl⟩
            obtain ⟨y2, hy2⟩ : ∃ y, i64L (inTake 8 (inTake 8 (inTake 8 b 0).2.1 (inTake 8 b 0).2.2).2.1 (inTake 8 (inTake 8 b 0).2.1 (inTake 8 b 0).2.2).2.2).1 = y := ⟨_, rfl⟩
            go_wp2_with fail
            refine Herr.out.mono ?_
            rintro e wy ⟨rfl, rfl⟩
            go_wp2_with fail
            refine wp_region_held_drew (S := fun _ => True) (by kernel_rfl) trivial (fun hHeld => ?_)
            refine take_at 0 (some 38) (v := ?_) rfl (by kernel_rfl) (by kernel_rfl) (by kernel_rfl) (by kernel_rfl) (fun _ _ _ h => h) (Or.inl ⟨by kernel_rfl, ?_⟩) (by assumption) ?_
            rotate_left
            · (intro w hSw; (try dsimp only at hSw); go_simp; try with_reducible rfl)
            try simp only [Act.put, List.setIfInBounds_toArray, List.set_cons_zero, List.set_cons_succ]
            refine take_at 1 (some 39) (v := ?_) rfl (by kernel_rfl) (by kernel_rfl) (by kernel_rfl) (by kernel_rfl) (fun _ _ _ h => h) (Or.inl ⟨by kernel_rfl, ?_⟩) (by assumption) ?_
            rotate_left
            · (intro w hSw; (try dsimp only at hSw); go_simp; try with_reducible rfl)
            try simp only [Act.put, List.setIfInBounds_toArray, List.set_cons_zero, List.set_cons_succ]
            refine take_at 2 (some 40) (v := ?_) rfl (by kernel_rfl) (by kernel_rfl) (by kernel_rfl) (by kernel_rfl) (fun _ _ _ h => h) (Or.inl ⟨by kernel_rfl, ?_⟩) (by assumption) ?_
            rotate_left
            · (intro w hSw; (try dsimp only at hSw); go_simp; try with_reducible rfl)
            try simp only [Act.put, List.setIfInBounds_toArray, List.set_cons_zero, List.set_cons_succ]
            refine take_at 3 (some 41) (v := ?_) rfl (by kernel_rfl) (by kernel_rfl) (by kernel_rfl) (by kernel_rfl) (fun _ _ _ h => h) (Or.inl ⟨by kernel_rfl, ?_⟩) (by assumption) ?_
            rotate_left
            · (intro w hSw; (try dsimp only at hSw); go_simp; try with_reducible rfl)
            try simp only [Act.put, List.setIfInBounds_toArray, List.set_cons_zero, List.set_cons_succ]
            refine take_at 5 (some 43) (v := ?_) rfl (by kernel_rfl) (by kernel_rfl) (by kernel_rfl) (by kernel_rfl) (fun _ _ _ h => h) (Or.inl ⟨by kernel_rfl, ?_⟩) (by assumption) ?_
            rotate_left
            · (intro w hSw; (try dsimp only at hSw); go_simp; try with_reducible rfl)
            try simp only [Act.put, List.setIfInBounds_toArray, List.set_cons_zero, List.set_cons_succ]
            refine take_at 7 (some 45) (v := ?_) rfl (by kernel_rfl) (by kernel_rfl) (by kernel_rfl) (by kernel_rfl) (fun _ _ _ h => h) (Or.inl ⟨by kernel_rfl, ?_⟩) (by assumption) ?_
            rotate_left
            · (intro w hSw; (try dsimp only at hSw); go_simp; try with_reducible rfl)
            try simp only [Act.put, List.setIfInBounds_toArray, List.set_cons_zero, List.set_cons_succ]
            refine take_at 9 (some 47) (v := ?_) rfl (by kernel_rfl) (by kernel_rfl) (by kernel_rfl) (by kernel_rfl) (fun _ _ _ h => h) (Or.inl ⟨by kernel_rfl, ?_⟩) (by assumption) ?_
            rotate_left
            · (intro w hSw; (try dsimp only at hSw); go_simp; try with_reducible rfl)
            try simp only [Act.put, List.setIfInBounds_toArray, List.set_cons_zero, List.set_cons_succ]
            refine wpAnyH_ready (rs := [4, 6]) (by kernel_rfl) (by simp) ?_
            refine AllReadyH.cons rfl (fun K hK => ?_) ?_
            · go_simp
              first | (refine hK.out _ _ trivial (fun hHeld => ?_)) | (go_wp2_with fail; refine hK.out _ _ trivial (fun hHeld => ?_))
              clear hK K
              try simp only [Act.put, List.setIfInBounds_toArray, List.set_cons_zero, List.set_cons_succ]
              refine wpAnyH_ready (rs := [6]) (by kernel_rfl) (by simp) ?_
              refine AllReadyH.cons rfl (fun K hK => ?_) AllReadyH.nil
              go_simp
              refine (inI64G g w1.heap.size _ _ _ HF.out.inn (by first | omega | (have h1 := inTake_rest 8 b 0; omega) | (have h1 := inTake_rest 8 b 0; have h2 := inTake_rest 8 (inTake 8 b 0).2.1 (inTake 8 b 0).2.2; omega))).mono ?_; rintro e wz ⟨rfl, hI, hg⟩; have HF := Lib.hid (HF.out.step hI hg hTg hbw); have hc := HF.out.tab.cell 0; clear hI hg
              first | (refine hK.out _ _ trivial (fun hHeld => ?_)) | (go_wp2_with fail; refine hK.out _ _ trivial (fun hHeld => ?_))
              clear hK K
              try simp only [Act.put, List.setIfInBounds_toArray, List.set_cons_zero, List.set_cons_succ]
              refine wpAnyH_ready (rs := [8]) (by kernel_rfl) (by simp) ?_
              refine AllReadyH.cons rfl (fun K hK => ?_) AllReadyH.nil
              go_simp
              refine (inI64G g w1.heap.size _ _ _ HF.out.inn (by first | omega | (have h1 := inTake_rest 8 b 0; omega) | (have h1 := inTake_rest 8 b 0; have h2 := inTake_rest 8 (inTake 8 b 0).2.1 (inTake 8 b 0).2.2; omega))).mono ?_; rintro e wz ⟨rfl, hI, hg⟩; have HF := Lib.hid (HF.out.step hI hg hTg hbw); have hc := HF.out.tab.cell 0; clear hI hg
              first | (refine hK.out _ _ trivial (fun hHeld => ?_)) | (go_wp2_with fail; refine hK.out _ _ trivial (fun hHeld => ?_))
              clear hK K
              try simp only [Act.put, List.setIfInBounds_toArray, List.set_cons_zero, List.set_cons_succ]
              refine wpAnyH_ready (rs := [10]) (by kernel_rfl) (by simp) ?_
              refine AllReadyH.cons rfl (fun K hK => ?_) AllReadyH.nil
              go_simp
              refine (inI64G g w1.heap.size _ _ _ HF.out.inn (by first | omega | (have h1 := inTake_rest 8 b 0; omega) | (have h1 := inTake_rest 8 b 0; have h2 := inTake_rest 8 (inTake 8 b 0).2.1 (inTake 8 b 0).2.2; omega))).mono ?_; rintro e wz ⟨rfl, hI, hg⟩; have HF := Lib.hid (HF.out.step hI hg hTg hbw); have hc := HF.out.tab.cell 0; clear hI hg
              first | (refine hK.out _ _ trivial (fun hHeld => ?_)) | (go_wp2_with fail; refine hK.out _ _ trivial (fun hHeld => ?_))
              clear hK K
              try simp only [Act.put, List.setIfInBounds_toArray, List.set_cons_zero, List.set_cons_succ]
              refine take_at 11 (some 49) (v := ?_) rfl (by kernel_rfl) (by kernel_rfl) (by kernel_rfl) (by kernel_rfl) (fun _ _ _ h => h) (Or.inl ⟨by kernel_rfl, ?_⟩) (by assumption) ?_
              rotate_left
              · (intro w hSw; (try dsimp only at hSw); go_simp; try with_reducible rfl)
              try simp only [Act.put, List.setIfInBounds_toArray, List.set_cons_zero, List.set_cons_succ]
              refine wpAnyH_ready (rs := [12]) (by kernel_rfl) (by simp) ?_
              refine AllReadyH.cons rfl (fun K hK => ?_) AllReadyH.nil
              go_simp
              have HF0 := HF; have HF := Lib.hid (HF.out.alloc (.cells #[.int .i64 y0, .int .i64 y1, .int .i64 y2] 27)); have hc := HF.out.tab.cell 0
              first | (refine hK.out _ _ trivial (fun hHeld => ?_)) | (go_wp2_with fail; refine hK.out _ _ trivial (fun hHeld => ?_))
              clear hK K
              try simp only [Act.put, List.setIfInBounds_toArray, List.set_cons_zero, List.set_cons_succ]
              refine wpAnyH_ready (rs := [13]) (by kernel_rfl) (by simp) ?_
              refine AllReadyH.cons rfl (fun K hK => ?_) AllReadyH.nil
              refine step_append_lies _ (by rfl) (.tmp 42) (.tmp 50) _ (by rfl) w.heap.size 27 i0 _ 3 24 Try.underlying32 hi0 hz0 hz1 hz2 rfl (by omega) v acc.length (enVs acc) (by simp [Act.eval, Act.put]) (by exact HF.out.own) ⟨wz.heap.size, 0, none⟩ 1 1 (enC (y0, y1, y2)) (by simp [Act.eval, Act.put]) (by rfl) (World.news_of_block (cs := #[.int .i64 y0, .int .i64 y1, .int .i64 y2]) (heap_alloc_new wz _)) (enC_one _) (by omega) (by simp only [maxLen]; omega) (by omega) (by exact HF.out.bel.size) _ rfl ?_; intro gg cap w7 hown hgrow hat hlt7
              have hT7 := HF.out.tab.grown hgrow (fun e => own_ne_blk HF.out.own HF.out.tab (by decide) e.symm)
              have hc7 := hT7.cell 0; have hf7 := hT7.free 0
              have HF7 := Lib.hid (HF.out.app (acc' := acc ++ [(y0, y1, y2)]) (by rw [enVs_append]; simpa [enVs] using hown) (by simp) hgrow hTg hwT)
              clear hown hgrow hat hlt7 hT7
              first | (refine hK.out _ _ trivial (fun hHeld => ?_)) | (go_wp2_with fail; refine hK.out _ _ trivial (fun hHeld => ?_))
              clear hK K
              try simp only [Act.put, List.setIfInBounds_toArray, List.set_cons_zero, List.set_cons_succ]
              refine take_at 14 (some 52) (v := ?_) rfl (by kernel_rfl) (by kernel_rfl) (by kernel_rfl) (by kernel_rfl) (fun _ _ _ h => h) (Or.inl ⟨by kernel_rfl, ?_⟩) (by assumption) ?_
              rotate_left
              · (intro w hSw; (try dsimp only at hSw); go_simp; try with_reducible rfl)
              try simp only [Act.put, List.setIfInBounds_toArray, List.set_cons_zero, List.set_cons_succ]
              refine take_at 15 (some 53) (v := ?_) rfl (by kernel_rfl) (by kernel_rfl) (by kernel_rfl) (by kernel_rfl) (fun _ _ _ h => h) (Or.inl ⟨by kernel_rfl, ?_⟩) (by assumption) ?_
              rotate_left
              · (intro w hSw; (try dsimp only at hSw); go_simp; try with_reducible rfl)
              try simp only [Act.put, List.setIfInBounds_toArray, List.set_cons_zero, List.set_cons_succ]
              refine wpAnyH_ready (rs := [16]) (by kernel_rfl) (by simp) ?_
              refine AllReadyH.cons rfl (fun K hK => ?_) AllReadyH.nil
              go_simp
              first | (refine hK.out _ _ trivial (fun hHeld => ?_)) | (go_wp2_with fail; refine hK.out _ _ trivial (fun hHeld => ?_))
              clear hK K
              try simp only [Act.put, List.setIfInBounds_toArray, List.set_cons_zero, List.set_cons_succ]
              refine wpAnyH_done (by kernel_rfl) ?_ _
              go_wp2_with fail
              refine ⟨⟨j - 1, acc ++ [(y0, y1, y2)], _, _, _, by rw [show ((j - 1 : Nat) : Int) = (j : Int) - 1 from by omega], by omega, Lib.hid ⟨HF7.out, ?_, ?_, ?_, ?_⟩⟩, by simp [intOf]; omega⟩
              · have h := rd_round HL.out.2.1 hj; rw [hy0, hy1, hy2] at h; exact h
              · have h := rd_len1 b; have := HL.out.2.2.1; omega
              · intro h0; have h := rd_len0 b h0; have := HL.out.2.2.2.1 trivial; simp only [List.length_append, List.length_cons, List.length_nil]; omega
              · simp only [List.length_append, List.length_cons, List.length_nil]; omega
            refine AllReadyH.cons rfl (fun K hK => ?_) AllReadyH.nil
            go_simp
            refine (inI64G g w1.heap.size _ _ _ HF.out.inn (by first | omega | (have h1 := inTake_rest 8 b 0; omega) | (have h1 := inTake_rest 8 b 0; have h2 := inTake_rest 8 (inTake 8 b 0).2.1 (inTake 8 b 0).2.2; omega))).mono ?_; rintro e wz ⟨rfl, hI, hg⟩; have HF := Lib.hid (HF.out.step hI hg hTg hbw); have hc := HF.out.tab.cell 0; clear hI hg
            first | (refine hK.out _ _ trivial (fun hHeld => ?_)) | (go_wp2_with fail; refine hK.out _ _ trivial (fun hHeld => ?_))
            clear hK K
            try simp only [Act.put, List.setIfInBounds_toArray, List.set_cons_zero, List.set_cons_succ]
            refine wpAnyH_ready (rs := [4, 8]) (by kernel_rfl) (by simp) ?_
            refine AllReadyH.cons rfl (fun K hK => ?_) ?_
            · go_simp
              first | (refine hK.out _ _ trivial (fun hHeld => ?_)) | (go_wp2_with fail; refine hK.out _ _ trivial (fun hHeld => ?_))
              clear hK K
              try simp only [Act.put, List.setIfInBounds_toArray, List.set_cons_zero, List.set_cons_succ]
              refine wpAnyH_ready (rs := [8]) (by kernel_rfl) (by simp) ?_
              refine AllReadyH.cons rfl (fun K hK => ?_) AllReadyH.nil
              go_simp
              refine (inI64G g w1.heap.size _ _ _ HF.out.inn (by first | omega | (have h1 := inTake_rest 8 b 0; omega) | (have h1 := inTake_rest 8 b 0; have h2 := inTake_rest 8 (inTake 8 b 0).2.1 (inTake 8 b 0).2.2; omega))).mono ?_; rintro e wz ⟨rfl, hI, hg⟩; have HF := Lib.hid (HF.out.step hI hg hTg hbw); have hc := HF.out.tab.cell 0; clear hI hg
              first | (refine hK.out _ _ trivial (fun hHeld => ?_)) | (go_wp2_with fail; refine hK.out _ _ trivial (fun hHeld => ?_))
              clear hK K
              try simp only [Act.put, List.setIfInBounds_toArray, List.set_cons_zero, List.set_cons_succ]
              refine wpAnyH_ready (rs := [10]) (by kernel_rfl) (by simp) ?_
              refine AllReadyH.cons rfl (fun K hK => ?_) AllReadyH.nil
              go_simp
              refine (inI64G g w1.heap.size _ _ _ HF.out.inn (by first | omega | (have h1 := inTake_rest 8 b 0; omega) | (have h1 := inTake_rest 8 b 0; have h2 := inTake_rest 8 (inTake 8 b 0).2.1 (inTake 8 b 0).2.2; omega))).mono ?_; rintro e wz ⟨rfl, hI, hg⟩; have HF := Lib.hid (HF.out.step hI hg hTg hbw); have hc := HF.out.tab.cell 0; clear hI hg
              first | (refine hK.out _ _ trivial (fun hHeld => ?_)) | (go_wp2_with fail; refine hK.out _ _ trivial (fun hHeld => ?_))
              clear hK K
              try simp only [Act.put, List.setIfInBounds_toArray, List.set_cons_zero, List.set_cons_succ]
              refine take_at 11 (some 49) (v := ?_) rfl (by kernel_rfl) (by kernel_rfl) (by kernel_rfl) (by kernel_rfl) (fun _ _ _ h => h) (Or.inl ⟨by kernel_rfl, ?_⟩) (by assumption) ?_
              rotate_left
              · (intro w hSw; (try dsimp only at hSw); go_simp; try with_reducible rfl)
              try simp only [Act.put, List.setIfInBounds_toArray, List.set_cons_zero, List.set_cons_succ]
              refine wpAnyH_ready (rs := [12]) (by kernel_rfl) (by simp) ?_
              refine AllReadyH.cons rfl (fun K hK => ?_) AllReadyH.nil
              go_simp
              have HF0 := HF; have HF := Lib.hid (HF.out.alloc (.cells #[.int .i64 y0, .int .i64 y1, .int .i64 y2] 27)); have hc := HF.out.tab.cell 0
              first | (refine hK.out _ _ trivial (fun hHeld => ?_)) | (go_wp2_with fail; refine hK.out _ _ trivial (fun hHeld => ?_))
              clear hK K
              try simp only [Act.put, List.setIfInBounds_toArray, List.set_cons_zero, List.set_cons_succ]
              refine wpAnyH_ready (rs := [13]) (by kernel_rfl) (by simp) ?_
              refine AllReadyH.cons rfl (fun K hK => ?_) AllReadyH.nil
              refine step_append_lies _ (by rfl) (.tmp 42) (.tmp 50) _ (by rfl) w.heap.size 27 i0 _ 3 24 Try.underlying32 hi0 hz0 hz1 hz2 rfl (by omega) v acc.length (enVs acc) (by simp [Act.eval, Act.put]) (by exact HF.out.own) ⟨wz.heap.size, 0, none⟩ 1 1 (enC (y0, y1, y2)) (by simp [Act.eval, Act.put]) (by rfl) (World.news_of_block (cs := #[.int .i64 y0, .int .i64 y1, .int .i64 y2]) (heap_alloc_new wz _)) (enC_one _) (by omega) (by simp only [maxLen]; omega) (by omega) (by exact HF.out.bel.size) _ rfl ?_; intro gg cap w7 hown hgrow hat hlt7
              have hT7 := HF.out.tab.grown hgrow (fun e => own_ne_blk HF.out.own HF.out.tab (by decide) e.symm)
              have hc7 := hT7.cell 0; have hf7 := hT7.free 0
              have HF7 := Lib.hid (HF.out.app (acc' := acc ++ [(y0, y1, y2)]) (by rw [enVs_append]; simpa [enVs] using hown) (by simp) hgrow hTg hwT)
              clear hown hgrow hat hlt7 hT7
              first | (refine hK.out _ _ trivial (fun hHeld => ?_)) | (go_wp2_with fail; refine hK.out _ _ trivial (fun hHeld => ?_))
              clear hK K
              try simp only [Act.put, List.setIfInBounds_toArray, List.set_cons_zero, List.set_cons_succ]
              refine take_at 14 (some 52) (v := ?_) rfl (by kernel_rfl) (by kernel_rfl) (by kernel_rfl) (by kernel_rfl) (fun _ _ _ h => h) (Or.inl ⟨by kernel_rfl, ?_⟩) (by assumption) ?_
              rotate_left
              · (intro w hSw; (try dsimp only at hSw); go_simp; try with_reducible rfl)
              try simp only [Act.put, List.setIfInBounds_toArray, List.set_cons_zero, List.set_cons_succ]
              refine take_at 15 (some 53) (v := ?_) rfl (by kernel_rfl) (by kernel_rfl) (by kernel_rfl) (by kernel_rfl) (fun _ _ _ h => h) (Or.inl ⟨by kernel_rfl, ?_⟩) (by assumption) ?_
              rotate_left
              · (intro w hSw; (try dsimp only at hSw); go_simp; try with_reducible rfl)
              try simp only [Act.put, List.setIfInBounds_toArray, List.set_cons_zero, List.set_cons_succ]
              refine wpAnyH_ready (rs := [16]) (by kernel_rfl) (by simp) ?_
              refine AllReadyH.cons rfl (fun K hK => ?_) AllReadyH.nil
              go_simp
              first | (refine hK.out _ _ trivial (fun hHeld => ?_)) | (go_wp2_with fail; refine hK.out _ _ trivial (fun hHeld => ?_))
              clear hK K
              try simp only [Act.put, List.setIfInBounds_toArray, List.set_cons_zero, List.set_cons_succ]
              refine wpAnyH_done (by kernel_rfl) ?_ _
              go_wp2_with fail
              refine ⟨⟨j - 1, acc ++ [(y0, y1, y2)], _, _, _, by rw [show ((j - 1 : Nat) : Int) = (j : Int) - 1 from by omega], by omega, Lib.hid ⟨HF7.out, ?_, ?_, ?_, ?_⟩⟩, by simp [intOf]; omega⟩
              · have h := rd_round HL.out.2.1 hj; rw [hy0, hy1, hy2] at h; exact h
              · have h := rd_len1 b; have := HL.out.2.2.1; omega
              · intro h0; have h := rd_len0 b h0; have := HL.out.2.2.2.1 trivial; simp only [List.length_append, List.length_cons, List.length_nil]; omega
              · simp only [List.length_append, List.length_cons, List.length_nil]; omega
            refine AllReadyH.cons rfl (fun K hK => ?_) AllReadyH.nil
            go_simp
            refine (inI64G g w1.heap.size _ _ _ HF.out.inn (by first | omega | (have h1 := inTake_rest 8 b 0; omega) | (have h1 := inTake_rest 8 b 0; have h2 := inTake_rest 8 (inTake 8 b 0).2.1 (inTake 8 b 0).2.2; omega))).mono ?_; rintro e wz ⟨rfl, hI, hg⟩; have HF := Lib.hid (HF.out.step hI hg hTg hbw); have hc := HF.out.tab.cell 0; clear hI hg
            first | (refine hK.out _ _ trivial (fun hHeld => ?_)) | (go_wp2_with fail; refine hK.out _ _ trivial (fun hHeld => ?_))
            clear hK K
            try simp only [Act.put, List.setIfInBounds_toArray, List.set_cons_zero, List.set_cons_succ]
            refine wpAnyH_ready (rs := [4, 10]) (by kernel_rfl) (by simp) ?_
            refine AllReadyH.cons rfl (fun K hK => ?_) ?_
            · go_simp
              first | (refine hK.out _ _ trivial (fun hHeld => ?_)) | (go_wp2_with fail; refine hK.out _ _ trivial (fun hHeld => ?_))
              clear hK K
              try simp only [Act.put, List.setIfInBounds_toArray, List.set_cons_zero, List.set_cons_succ]
              refine wpAnyH_ready (rs := [10]) (by kernel_rfl) (by simp) ?_
              refine AllReadyH.cons rfl (fun K hK => ?_) AllReadyH.nil
              go_simp
              refine (inI64G g w1.heap.size _ _ _ HF.out.inn (by first | omega | (have h1 := inTake_rest 8 b 0; omega) | (have h1 := inTake_rest 8 b 0; have h2 := inTake_rest 8 (inTake 8 b 0).2.1 (inTake 8 b 0).2.2; omega))).mono ?_; rintro e wz ⟨rfl, hI, hg⟩; have HF := Lib.hid (HF.out.step hI hg hTg hbw); have hc := HF.out.tab.cell 0; clear hI hg
              first | (refine hK.out _ _ trivial (fun hHeld => ?_)) | (go_wp2_with fail; refine hK.out _ _ trivial (fun hHeld => ?_))
              clear hK K
              try simp only [Act.put, List.setIfInBounds_toArray, List.set_cons_zero, List.set_cons_succ]
              refine take_at 11 (some 49) (v := ?_) rfl (by kernel_rfl) (by kernel_rfl) (by kernel_rfl) (by kernel_rfl) (fun _ _ _ h => h) (Or.inl ⟨by kernel_rfl, ?_⟩) (by assumption) ?_
              rotate_left
              · (intro w hSw; (try dsimp only at hSw); go_simp; try with_reducible rfl)
              try simp only [Act.put, List.setIfInBounds_toArray, List.set_cons_zero, List.set_cons_succ]
              refine wpAnyH_ready (rs := [12]) (by kernel_rfl) (by simp) ?_
              refine AllReadyH.cons rfl (fun K hK => ?_) AllReadyH.nil
              go_simp
              have HF0 := HF; have HF := Lib.hid (HF.out.alloc (.cells #[.int .i64 y0, .int .i64 y1, .int .i64 y2] 27)); have hc := HF.out.tab.cell 0
              first | (refine hK.out _ _ trivial (fun hHeld => ?_)) | (go_wp2_with fail; refine hK.out _ _ trivial (fun hHeld => ?_))
              clear hK K
              try simp only [Act.put, List.setIfInBounds_toArray, List.set_cons_zero, List.set_cons_succ]
              refine wpAnyH_ready (rs := [13]) (by kernel_rfl) (by simp) ?_
              refine AllReadyH.cons rfl (fun K hK => ?_) AllReadyH.nil
              refine step_append_lies _ (by rfl) (.tmp 42) (.tmp 50) _ (by rfl) w.heap.size 27 i0 _ 3 24 Try.underlying32 hi0 hz0 hz1 hz2 rfl (by omega) v acc.length (enVs acc) (by simp [Act.eval, Act.put]) (by exact HF.out.own) ⟨wz.heap.size, 0, none⟩ 1 1 (enC (y0, y1, y2)) (by simp [Act.eval, Act.put]) (by rfl) (World.news_of_block (cs := #[.int .i64 y0, .int .i64 y1, .int .i64 y2]) (heap_alloc_new wz _)) (enC_one _) (by omega) (by simp only [maxLen]; omega) (by omega) (by exact HF.out.bel.size) _ rfl ?_; intro gg cap w7 hown hgrow hat hlt7
              have hT7 := HF.out.tab.grown hgrow (fun e => own_ne_blk HF.out.own HF.out.tab (by decide) e.symm)
              have hc7 := hT7.cell 0; have hf7 := hT7.free 0
              have HF7 := Lib.hid (HF.out.app (acc' := acc ++ [(y0, y1, y2)]) (by rw [enVs_append]; simpa [enVs] using hown) (by simp) hgrow hTg hwT)
              clear hown hgrow hat hlt7 hT7
              first | (refine hK.out _ _ trivial (fun hHeld => ?_)) | (go_wp2_with fail; refine hK.out _ _ trivial (fun hHeld => ?_))
              clear hK K
              try simp only [Act.put, List.setIfInBounds_toArray, List.set_cons_zero, List.set_cons_succ]
              refine take_at 14 (some 52) (v := ?_) rfl (by kernel_rfl) (by kernel_rfl) (by kernel_rfl) (by kernel_rfl) (fun _ _ _ h => h) (Or.inl ⟨by kernel_rfl, ?_⟩) (by assumption) ?_
              rotate_left
              · (intro w hSw; (try dsimp only at hSw); go_simp; try with_reducible rfl)
              try simp only [Act.put, List.setIfInBounds_toArray, List.set_cons_zero, List.set_cons_succ]
              refine take_at 15 (some 53) (v := ?_) rfl (by kernel_rfl) (by kernel_rfl) (by kernel_rfl) (by kernel_rfl) (fun _ _ _ h => h) (Or.inl ⟨by kernel_rfl, ?_⟩) (by assumption) ?_
              rotate_left
              · (intro w hSw; (try dsimp only at hSw); go_simp; try with_reducible rfl)
              try simp only [Act.put, List.setIfInBounds_toArray, List.set_cons_zero, List.set_cons_succ]
              refine wpAnyH_ready (rs := [16]) (by kernel_rfl) (by simp) ?_
              refine AllReadyH.cons rfl (fun K hK => ?_) AllReadyH.nil
              go_simp
              first | (refine hK.out _ _ trivial (fun hHeld => ?_)) | (go_wp2_with fail; refine hK.out _ _ trivial (fun hHeld => ?_))
              clear hK K
              try simp only [Act.put, List.setIfInBounds_toArray, List.set_cons_zero, List.set_cons_succ]
              refine wpAnyH_done (by kernel_rfl) ?_ _
              go_wp2_with fail
              refine ⟨⟨j - 1, acc ++ [(y0, y1, y2)], _, _, _, by rw [show ((j - 1 : Nat) : Int) = (j : Int) - 1 from by omega], by omega, Lib.hid ⟨HF7.out, ?_, ?_, ?_, ?_⟩⟩, by simp [intOf]; omega⟩
              · have h := rd_round HL.out.2.1 hj; rw [hy0, hy1, hy2] at h; exact h
              · have h := rd_len1 b; have := HL.out.2.2.1; omega
              · intro h0; have h := rd_len0 b h0; have := HL.out.2.2.2.1 trivial; simp only [List.length_append, List.length_cons, List.length_nil]; omega
              · simp only [List.length_append, List.length_cons, List.length_nil]; omega
            refine AllReadyH.cons rfl (fun K hK => ?_) AllReadyH.nil
            go_simp
            refine (inI64G g w1.heap.size _ _ _ HF.out.inn (by first | omega | (have h1 := inTake_rest 8 b 0; omega) | (have h1 := inTake_rest 8 b 0; have h2 := inTake_rest 8 (inTake 8 b 0).2.1 (inTake 8 b 0).2.2; omega))).mono ?_; rintro e wz ⟨rfl, hI, hg⟩; have HF := Lib.hid (HF.out.step hI hg hTg hbw); have hc := HF.out.tab.cell 0; clear hI hg
            first | (refine hK.out _ _ trivial (fun hHeld => ?_)) | (go_wp2_with fail; refine hK.out _ _ trivial (fun hHeld => ?_))
            clear hK K
            try simp only [Act.put, List.setIfInBounds_toArray, List.set_cons_zero, List.set_cons_succ]
            refine take_at 11 (some 49) (v := ?_) rfl (by kernel_rfl) (by kernel_rfl) (by kernel_rfl) (by kernel_rfl) (fun _ _ _ h => h) (Or.inl ⟨by kernel_rfl, ?_⟩) (by assumption) ?_
            rotate_left
            · (intro w hSw; (try dsimp only at hSw); go_simp; try with_reducible rfl)
            try simp only [Act.put, List.setIfInBounds_toArray, List.set_cons_zero, List.set_cons_succ]
            refine wpAnyH_ready (rs := [4, 12]) (by kernel_rfl) (by simp) ?_
            refine AllReadyH.cons rfl (fun K hK => ?_) ?_
            · go_simp
              first | (refine hK.out _ _ trivial (fun hHeld => ?_)) | (go_wp2_with fail; refine hK.out _ _ trivial (fun hHeld => ?_))
              clear hK K
              try simp only [Act.put, List.setIfInBounds_toArray, List.set_cons_zero, List.set_cons_succ]
              refine wpAnyH_ready (rs := [12]) (by kernel_rfl) (by simp) ?_
              refine AllReadyH.cons rfl (fun K hK => ?_) AllReadyH.nil
              go_simp
              have HF0 := HF; have HF := Lib.hid (HF.out.alloc (.cells #[.int .i64 y0, .int .i64 y1, .int .i64 y2] 27)); have hc := HF.out.tab.cell 0
              first | (refine hK.out _ _ trivial (fun hHeld => ?_)) | (go_wp2_with fail; refine hK.out _ _ trivial (fun hHeld => ?_))
              clear hK K
              try simp only [Act.put, List.setIfInBounds_toArray, List.set_cons_zero, List.set_cons_succ]
              refine wpAnyH_ready (rs := [13]) (by kernel_rfl) (by simp) ?_
              refine AllReadyH.cons rfl (fun K hK => ?_) AllReadyH.nil
              refine step_append_lies _ (by rfl) (.tmp 42) (.tmp 50) _ (by rfl) w.heap.size 27 i0 _ 3 24 Try.underlying32 hi0 hz0 hz1 hz2 rfl (by omega) v acc.length (enVs acc) (by simp [Act.eval, Act.put]) (by exact HF.out.own) ⟨wz.heap.size, 0, none⟩ 1 1 (enC (y0, y1, y2)) (by simp [Act.eval, Act.put]) (by rfl) (World.news_of_block (cs := #[.int .i64 y0, .int .i64 y1, .int .i64 y2]) (heap_alloc_new wz _)) (enC_one _) (by omega) (by simp only [maxLen]; omega) (by omega) (by exact HF.out.bel.size) _ rfl ?_; intro gg cap w7 hown hgrow hat hlt7
              have hT7 := HF.out.tab.grown hgrow (fun e => own_ne_blk HF.out.own HF.out.tab (by decide) e.symm)
              have hc7 := hT7.cell 0; have hf7 := hT7.free 0
              have HF7 := Lib.hid (HF.out.app (acc' := acc ++ [(y0, y1, y2)]) (by rw [enVs_append]; simpa [enVs] using hown) (by simp) hgrow hTg hwT)
              clear hown hgrow hat hlt7 hT7
              first | (refine hK.out _ _ trivial (fun hHeld => ?_)) | (go_wp2_with fail; refine hK.out _ _ trivial (fun hHeld => ?_))
              clear hK K
              try simp only [Act.put, List.setIfInBounds_toArray, List.set_cons_zero, List.set_cons_succ]
              refine take_at 14 (some 52) (v := ?_) rfl (by kernel_rfl) (by kernel_rfl) (by kernel_rfl) (by kernel_rfl) (fun _ _ _ h => h) (Or.inl ⟨by kernel_rfl, ?_⟩) (by assumption) ?_
              rotate_left
              · (intro w hSw; (try dsimp only at hSw); go_simp; try with_reducible rfl)
              try simp only [Act.put, List.setIfInBounds_toArray, List.set_cons_zero, List.set_cons_succ]
              refine take_at 15 (some 53) (v := ?_) rfl (by kernel_rfl) (by kernel_rfl) (by kernel_rfl) (by kernel_rfl) (fun _ _ _ h => h) (Or.inl ⟨by kernel_rfl, ?_⟩) (by assumption) ?_
              rotate_left
              · (intro w hSw; (try dsimp only at hSw); go_simp; try with_reducible rfl)
              try simp only [Act.put, List.setIfInBounds_toArray, List.set_cons_zero, List.set_cons_succ]
              refine wpAnyH_ready (rs := [16]) (by kernel_rfl) (by simp) ?_
              refine AllReadyH.cons rfl (fun K hK => ?_) AllReadyH.nil
              go_simp
              first | (refine hK.out _ _ trivial (fun hHeld => ?_)) | (go_wp2_with fail; refine hK.out _ _ trivial (fun hHeld => ?_))
              clear hK K
              try simp only [Act.put, List.setIfInBounds_toArray, List.set_cons_zero, List.set_cons_succ]
              refine wpAnyH_done (by kernel_rfl) ?_ _
              go_wp2_with fail
              refine ⟨⟨j - 1, acc ++ [(y0, y1, y2)], _, _, _, by rw [show ((j - 1 : Nat) : Int) = (j : Int) - 1 from by omega], by omega, Lib.hid ⟨HF7.out, ?_, ?_, ?_, ?_⟩⟩, by simp [intOf]; omega⟩
              · have h := rd_round HL.out.2.1 hj; rw [hy0, hy1, hy2] at h; exact h
              · have h := rd_len1 b; have := HL.out.2.2.1; omega
              · intro h0; have h := rd_len0 b h0; have := HL.out.2.2.2.1 trivial; simp only [List.length_append, List.length_cons, List.length_nil]; omega
              · simp only [List.length_append, List.length_cons, List.length_nil]; omega
            refine AllReadyH.cons rfl (fun K hK => ?_) AllReadyH.nil
            go_simp
            have HF0 := HF; have HF := Lib.hid (HF.out.alloc (.cells #[.int .i64 y0, .int .i64 y1, .int .i64 y2] 27)); have hc := HF.out.tab.cell 0
            first | (refine hK.out _ _ trivial (fun hHeld => ?_)) | (go_wp2_with fail; refine hK.out _ _ trivial (fun hHeld => ?_))
            clear hK K
            try simp only [Act.put, List.setIfInBounds_toArray, List.set_cons_zero, List.set_cons_succ]
            refine wpAnyH_ready (rs := [4]) (by kernel_rfl) (by simp) ?_
            refine AllReadyH.cons rfl (fun K hK => ?_) AllReadyH.nil
            go_simp
            first | (refine hK.out _ _ trivial (fun hHeld => ?_)) | (go_wp2_with fail; refine hK.out _ _ trivial (fun hHeld => ?_))
            clear hK K
            try simp only [Act.put, List.setIfInBounds_toArray, List.set_cons_zero, List.set_cons_succ]
            refine wpAnyH_ready (rs := [13]) (by kernel_rfl) (by simp) ?_
            refine AllReadyH.cons rfl (fun K hK => ?_) AllReadyH.nil
            refine step_append_lies _ (by rfl) (.tmp 42) (.tmp 50) _ (by rfl) w.heap.size 27 i0 _ 3 24 Try.underlying32 hi0 hz0 hz1 hz2 rfl (by omega) v acc.length (enVs acc) (by simp [Act.eval, Act.put]) (by exact HF.out.own) ⟨wz.heap.size, 0, none⟩ 1 1 (enC (y0, y1, y2)) (by simp [Act.eval, Act.put]) (by rfl) (World.news_of_block (cs := #[.int .i64 y0, .int .i64 y1, .int .i64 y2]) (heap_alloc_new wz _)) (enC_one _) (by omega) (by simp only [maxLen]; omega) (by omega) (by exact HF.out.bel.size) _ rfl ?_; intro gg cap w7 hown hgrow hat hlt7
            have hT7 := HF.out.tab.grown hgrow (fun e => own_ne_blk HF.out.own HF.out.tab (by decide) e.symm)
            have hc7 := hT7.cell 0; have hf7 := hT7.free 0
            have HF7 := Lib.hid (HF.out.app (acc' := acc ++ [(y0, y1, y2)]) (by rw [enVs_append]; simpa [enVs] using hown) (by simp) hgrow hTg hwT)
            clear hown hgrow hat hlt7 hT7
            first | (refine hK.out _ _ trivial (fun hHeld => ?_)) | (go_wp2_with fail; refine hK.out _ _ trivial (fun hHeld => ?_))
            clear hK K
            try simp only [Act.put, List.setIfInBounds_toArray, List.set_cons_zero, List.set_cons_succ]
            refine take_at 14 (some 52) (v := ?_) rfl (by kernel_rfl) (by kernel_rfl) (by kernel_rfl) (by kernel_rfl) (fun _ _ _ h => h) (Or.inl ⟨by kernel_rfl, ?_⟩) (by assumption) ?_
            rotate_left
            · (intro w hSw; (try dsimp only at hSw); go_simp; try with_reducible rfl)
            try simp only [Act.put, List.setIfInBounds_toArray, List.set_cons_zero, List.set_cons_succ]
            refine take_at 15 (some 53) (v := ?_) rfl (by kernel_rfl) (by kernel_rfl) (by kernel_rfl) (by kernel_rfl) (fun _ _ _ h => h) (Or.inl ⟨by kernel_rfl, ?_⟩) (by assumption) ?_
            rotate_left
            · (intro w hSw; (try dsimp only at hSw); go_simp; try with_reducible rfl)
            try simp only [Act.put, List.setIfInBounds_toArray, List.set_cons_zero, List.set_cons_succ]
            refine wpAnyH_ready (rs := [16]) (by kernel_rfl) (by simp) ?_
            refine AllReadyH.cons rfl (fun K hK => ?_) AllReadyH.nil
            go_simp
            first | (refine hK.out _ _ trivial (fun hHeld => ?_)) | (go_wp2_with fail; refine hK.out _ _ trivial (fun hHeld => ?_))
            clear hK K
            try simp only [Act.put, List.setIfInBounds_toArray, List.set_cons_zero, List.set_cons_succ]
            refine wpAnyH_done (by kernel_rfl) ?_ _
            go_wp2_with fail
            refine ⟨⟨j - 1, acc ++ [(y0, y1, y2)], _, _, _, by rw [show ((j - 1 : Nat) : Int) = (j : Int) - 1 from by omega], by omega, Lib.hid ⟨HF7.out, ?_, ?_, ?_, ?_⟩⟩, by simp [intOf]; omega⟩
            · have h := rd_round HL.out.2.1 hj; rw [hy0, hy1, hy2] at h; exact h
            · have h := rd_len1 b; have := HL.out.2.2.1; omega
            · intro h0; have h := rd_len0 b h0; have := HL.out.2.2.2.1 trivial; simp only [List.length_append, List.length_cons, List.length_nil]; omega
            · simp only [List.length_append, List.length_cons, List.length_nil]; omega
          · have hdx : decide (x = 0) = false := by simpa using hx
            have herr := inErr_any g w1.heap.size b x wr HL.out.1.inn
            have Herr := Lib.hid herr
            have Hend := Lib.hid (rd_end HL.out.2.1 (.inr hx))
            clear herr
            obtain ⟨A, cc, rfl, _⟩ := own_slice HL.out.1.own
            have hc := HL.out.1.tab.cell 0
            simp at hc
            have hac : acc.length ≤ 833335 := HL.out.2.2.2.2
            have hbl : b.length ≤ 20000000 := Nat.le_trans HL.out.2.2.1 hql
            have hbu := build_any A acc.length cc wr.heap.size acc wr (SlR.own HL.out.1.own) (Nat.le_refl _) (by omega)
            have hv := Hv.out
            rw [Hend.out] at hv
            dsimp only at hv
            obtain ⟨e1, he1⟩ : ∃ e, endL b x = e := ⟨_, rfl⟩
            obtain ⟨⟨b2, e2b⟩, hb2⟩ : ∃ p, buildT acc = p := ⟨_, rfl⟩
            rw [hb2] at hbu hv
            rw [he1] at hv
            dsimp only at hv hbu
            have hTg : T ≠ g := by omega
            have hwT : w.heap.size ≤ T := by have := Hb2.out.size; omega
            have hwg : w.heap.size ≤ g := Nat.le_trans Hb1.out.size HL.out.1.inn.1
            have Hbu := Lib.hid hbu; have He1 := Lib.hid he1; have Hv2 := Lib.hid hv; have Hb2b := Lib.hid hb2
            clear hbu he1 hv hb2
            go_wp2_with fail
            refine Herr.out.mono ?_
            rintro e wy ⟨rfl, rfl⟩
            go_wp2_with fail
            refine Hbu.out.mono ?_
            rintro e w5 ⟨rfl, hb5⟩
            have HR5 := Lib.hid (HL.out.1.below hb5)
            clear hb5
            go_wp2_with fail
            refine (inEnd_any g w1.heap.size b x w5 HR5.out.inn (by omega)).mono ?_
            rintro e w6 ⟨rfl, hg6, _⟩
            have HT6 := Lib.hid (HR5.out.tab.keptBy hg6 hTg)
            have HO6 := Lib.hid (HR5.out.own.kept hg6 (.inr (own_ne_blk HR5.out.own HR5.out.inn.2 (by decide))))
            have HB6 := Lib.hid (HR5.out.bel.grown hg6 HR5.out.bel.size (fun k hk => by injection hk with hk; rw [← hk]; exact hwg))
            clear hg6
            rw [He1.out]
            by_cases h1 : e1 = 0
            · subst h1
              by_cases h2 : e2b = 0
              · subst h2
                by_cases h3 : b2 = s.data.toList
                · subst h3
                  have hfin : openT s.data.toList = (acc, 0) := by rw [Hv2.out, if_neg (by simp)]
                  have Hfin := Lib.hid hfin
                  clear hfin
                  have h3 : (⟨s.data.toList.toArray⟩ : ByteArray) = s := by simp
                  go_wp2_with fail
                  go_ret2
                  rw [Hfin.out]
                  exact ⟨some ⟨T, 0, none⟩, rfl, fun h => absurd rfl h, fun _ => ⟨T, rfl, _, HT6.out, hwT, HO6.out⟩, HB6.out⟩
                · have hfin : openT s.data.toList = ([], 6) := by rw [Hv2.out, if_pos (.inr (.inr h3))]
                  have Hfin := Lib.hid hfin
                  clear hfin
                  have h3' : (⟨b2.toArray⟩ : ByteArray) ≠ s := fun e => h3 (by rw [← e])
                  go_wp2_with fail
                  · go_ret2
                    rw [Hfin.out]
                    exact ⟨none, rfl, fun _ => rfl, fun h => absurd h (by decide), HB6.out⟩
                  · have ht : (!b2 == s.toList) = false := by assumption
                    rw [ByteArray.toList_eq] at ht
                    exact absurd (by simpa using ht) h3
              · have hfin : openT s.data.toList = ([], 6) := by rw [Hv2.out, if_pos (.inr (.inl h2))]
                have Hfin := Lib.hid hfin
                clear hfin
                have hd2 : decide (e2b = 0) = false := by simpa using h2
                go_wp2_with fail
                go_ret2
                rw [Hfin.out]
                exact ⟨none, rfl, fun _ => rfl, fun h => absurd h (by decide), HB6.out⟩
            · have hfin : openT s.data.toList = ([], 6) := by rw [Hv2.out, if_pos (.inl h1)]
              have Hfin := Lib.hid hfin
              clear hfin
              have hd1 : decide (e1 = 0) = false := by simpa using h1
              go_wp2_with fail
              go_ret2
              rw [Hfin.out]
              exact ⟨none, rfl, fun _ => rfl, fun h => absurd h (by decide), HB6.out⟩
        · obtain rfl : j = 0 := by omega
          have Hend := Lib.hid (rd_end HL.out.2.1 (.inl rfl))
          obtain ⟨A, cc, rfl, _⟩ := own_slice HL.out.1.own
          have hc := HL.out.1.tab.cell 0
          simp at hc
          have hac : acc.length ≤ 833335 := HL.out.2.2.2.2
          have hbl : b.length ≤ 20000000 := Nat.le_trans HL.out.2.2.1 hql
          have hbu := build_any A acc.length cc wr.heap.size acc wr (SlR.own HL.out.1.own) (Nat.le_refl _) (by omega)
          have hv := Hv.out
          rw [Hend.out] at hv
          dsimp only at hv
          obtain ⟨e1, he1⟩ : ∃ e, endL b x = e := ⟨_, rfl⟩
          obtain ⟨⟨b2, e2b⟩, hb2⟩ : ∃ p, buildT acc = p := ⟨_, rfl⟩
          rw [hb2] at hbu hv
          rw [he1] at hv
          dsimp only at hv hbu
          have hTg : T ≠ g := by omega
          have hwT : w.heap.size ≤ T := by have := Hb2.out.size; omega
          have hwg : w.heap.size ≤ g := Nat.le_trans Hb1.out.size HL.out.1.inn.1
          have Hbu := Lib.hid hbu; have He1 := Lib.hid he1; have Hv2 := Lib.hid hv; have Hb2b := Lib.hid hb2
          clear hbu he1 hv hb2
          go_wp2_with fail
          refine Hbu.out.mono ?_
          rintro e w5 ⟨rfl, hb5⟩
          have HR5 := Lib.hid (HL.out.1.below hb5)
          clear hb5
          go_wp2_with fail
          refine (inEnd_any g w1.heap.size b x w5 HR5.out.inn (by omega)).mono ?_
          rintro e w6 ⟨rfl, hg6, _⟩
          have HT6 := Lib.hid (HR5.out.tab.keptBy hg6 hTg)
          have HO6 := Lib.hid (HR5.out.own.kept hg6 (.inr (own_ne_blk HR5.out.own HR5.out.inn.2 (by decide))))
          have HB6 := Lib.hid (HR5.out.bel.grown hg6 HR5.out.bel.size (fun k hk => by injection hk with hk; rw [← hk]; exact hwg))
          clear hg6
          rw [He1.out]
          by_cases h1 : e1 = 0
          · subst h1
            by_cases h2 : e2b = 0
            · subst h2
              by_cases h3 : b2 = s.data.toList
              · subst h3
                have hfin : openT s.data.toList = (acc, 0) := by rw [Hv2.out, if_neg (by simp)]
                have Hfin := Lib.hid hfin
                clear hfin
                have h3 : (⟨s.data.toList.toArray⟩ : ByteArray) = s := by simp
                go_wp2_with fail
                go_ret2
                rw [Hfin.out]
                exact ⟨some ⟨T, 0, none⟩, rfl, fun h => absurd rfl h, fun _ => ⟨T, rfl, _, HT6.out, hwT, HO6.out⟩, HB6.out⟩
              · have hfin : openT s.data.toList = ([], 6) := by rw [Hv2.out, if_pos (.inr (.inr h3))]
                have Hfin := Lib.hid hfin
                clear hfin
                have h3' : (⟨b2.toArray⟩ : ByteArray) ≠ s := fun e => h3 (by rw [← e])
                go_wp2_with fail
                · go_ret2
                  rw [Hfin.out]
                  exact ⟨none, rfl, fun _ => rfl, fun h => absurd h (by decide), HB6.out⟩
                · have ht : (!b2 == s.toList) = false := by assumption
                  rw [ByteArray.toList_eq] at ht
                  exact absurd (by simpa using ht) h3
            · have hfin : openT s.data.toList = ([], 6) := by rw [Hv2.out, if_pos (.inr (.inl h2))]
              have Hfin := Lib.hid hfin
              clear hfin
              have hd2 : decide (e2b = 0) = false := by simpa using h2
              go_wp2_with fail
              go_ret2
              rw [Hfin.out]
              exact ⟨none, rfl, fun _ => rfl, fun h => absurd h (by decide), HB6.out⟩
          · have hfin : openT s.data.toList = ([], 6) := by rw [Hv2.out, if_pos (.inl h1)]
            have Hfin := Lib.hid hfin
            clear hfin
            have hd1 : decide (e1 = 0) = false := by simpa using h1
            go_wp2_with fail
            go_ret2
            rw [Hfin.out]
            exact ⟨none, rfl, fun _ => rfl, fun h => absurd h (by decide), HB6.out⟩
end Go.Proofs.Ytfjilngofdahgaa
