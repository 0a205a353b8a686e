/- chapter 8: FrameKept, walked. -/
import Derived.Test.YtfkdkhcpmoohiaaLaw8
namespace Go.Proofs.Ytfkdkhcpmoohiaa
open Go.RowKit
set_option maxHeartbeats 1000000
set_option maxRecDepth 100000
set_option linter.unusedVariables false

theorem info_int8 : (Try.prog.info? 3).map (fun i => (i.zero, i.size, i.bytes)) = some (some (.int .i64 0), 1, 8) := by kernel_rfl
/-- where the frames end, as values -/
def endsV (bs : List (List UInt8)) (k : Nat) : List Value := (List.range k).map fun j => .int .i64 (endsL bs (j + 1) : Nat)
theorem endsV_succ (bs : List (List UInt8)) (k : Nat) : endsV bs (k + 1) = endsV bs k ++ [.int .i64 (endsL bs (k + 1) : Nat)] := by
  unfold endsV; rw [List.range_succ, List.map_append]; rfl
theorem endsV_get (bs : List (List UInt8)) (k j : Nat) (h : j < k) : (endsV bs k)[j]? = some (.int .i64 (endsL bs (j + 1) : Nat)) := by
  unfold endsV; simp [h]
theorem endsL_bodies (ss : List ByteArray) (k : Nat) : endsL (bodies ss) k = (layAll (bodies (ss.take k))).length := by
  unfold endsL bodies; rw [List.map_take]

theorem carry_cells {w w2 : World} {k : Nat} {A : Option Addr} {f : Nat → Value} (h : ∀ j, j < k → ∃ ad, A = some ad ∧ w.cell? (ad.add j) = some (f j)) (hb : Below w.heap.size w w2) :
    ∀ j, j < k → ∃ ad, A = some ad ∧ w2.cell? (ad.add j) = some (f j) := by
  intro j hj
  obtain ⟨ad, hA, hcell⟩ := h j hj
  exact ⟨ad, hA, (hb.cell (p := ad.add j) (World.block_lt_of_cell? _ _ hcell)).trans hcell⟩

theorem frameKept_any (A : Option Addr) (n cap : Nat) (ss : List ByteArray) (cut : Int) (w : World) (hl : ss.length = n) (hr : SlR w w.heap.size 1 A n (strVs ss))
    (hs : ∀ s ∈ ss, s.size ≤ 9223372036854775807) (hnc : n ≤ cap) (hcm : cap ≤ 9223372036854775807) (hcut : cut ≤ 9223372036854775807) :
    Calls Try.prog 5 #[.slice A n cap, .int .i64 cut] w fun e w' => e = .returned (.bool true) ∧ Below w.heap.size w w' := by
  have hsh := short_any 30 5000 n cap w.heap.size A ss w hr (Nat.le_refl _) (by omega) hs (by omega) (by omega)
  have Hsh := Lib.hid hsh; clear hsh
  cases hc : shortB 30 5000 ss with
  | false =>
    have Hc := Lib.hid hc; clear hc hr
    go_enter Try.func5, Try.ntmps5
    go_wp2_with fail
    refine Hsh.out.mono ?_
    rintro e w1 ⟨rfl, hb1⟩
    rw [Hc.out]
    go_wp2_with fail
    refine (alive8_any _).mono ?_
    rintro e w2 ⟨rfl, hb2⟩
    go_wp2_with fail
    go_ret
    exact ⟨rfl, hb1.trans (hb2.mono hb1.size)⟩
  | true =>
    have hfew : n ≤ 30 ∧ bytesOf ss ≤ 5000 := by unfold shortB at hc; rw [decide_eq_true_iff] at hc; omega
    have Hc := Lib.hid hc; clear hc
    by_cases hcn : 0 ≤ cut
    · obtain ⟨hf1, hf2⟩ := hfew
      obtain ⟨i0, hi0, hz0, hz1, hz2⟩ := info_parts info_int8
      have hall : ∀ k, (layAll (bodies (ss.take k))).length ≤ 5360 := fun k => layAll_take_le ss k 30 5000 (by omega) hf2
      have hsz : ∀ s ∈ ss, s.size ≤ 5000 := fun s h => Nat.le_trans (size_le_bytesOf ss s h) hf2
      have Hr := Lib.hid hr; have Hl := Lib.hid hl; have Hall := Lib.hid hall; have Hsz := Lib.hid hsz
      clear hr hl hall hsz hs
      go_enter Try.func5, Try.ntmps5
      go_wp2_with fail
      refine Hsh.out.mono ?_
      rintro e w1 ⟨rfl, hb1⟩
      rw [Hc.out]
      go_wp2_with fail
      go_loopw [5, 6, 7] (fun t o i wr => ∃ (k : Nat) (lv : Value), lv = o ∧ k ≤ n ∧ i = .int .i64 k ∧ t = .string ⟨(layAll (bodies (ss.take k))).toArray⟩ ∧ (∀ s ∈ ss.take k, s.size ≤ 4000) ∧
          wr.ownsRow w.heap.size 3 1 lv k (endsV (bodies ss) k) ∧ Below w.heap.size w wr) (fun _ _ i _ => n - (intOf i).toNat)
      case atStart => exact ⟨0, _, rfl, Nat.zero_le _, rfl, rfl, by simp, World.ownsRow_nil _ _ _ _, hb1⟩
      case round =>
        obtain ⟨k, lv, rfl, hk, rfl, rfl, h4, hown, hb⟩ := hrel
        have hkl := Hall.out k
        by_cases hlt : k < n
        · obtain ⟨ad, u, hA, had, hu, hcell⟩ := (Hr.out.below hb).get hlt
          subst hA
          obtain ⟨s, hs1, rfl⟩ := strVs_get hu
          have hs3 := Hsz.out s (List.mem_of_getElem? hs1)
          by_cases hs4 : s.size ≤ 4000
          · have hst := bodies_take ss k s hs1
            have hfl : (frameL s.data.toList).length = s.size + 12 := by rw [frameL_length, ← size_list]
            have hpl := putL_ok (b := s.data.toList) (by rw [← size_list]; omega)
            have hsn := layAll_snoc (bodies (ss.take k)) s.data.toList
            have h4n : ∀ t ∈ ss.take (k + 1), t.size ≤ 4000 := by
              intro t ht
              rw [List.take_add_one, hs1] at ht
              rcases List.mem_append.1 ht with ht | ht
              · exact h4 t ht
              · have : t = s := by simpa using ht
                rw [this]; exact hs4
            have hen := endsL_bodies ss (k + 1)
            rw [← hst] at hsn
            rw [hsn, List.length_append] at hen
            generalize frameL s.data.toList = F at hfl hpl hsn hen
            have hne : ((F.length : Int) != (s.size : Int) + 12) = false := by rw [hfl]; simp
            have hF : F.length ≤ 4012 := by omega
            have Hpl := Lib.hid hpl; have Hsn := Lib.hid hsn; have Hown := Lib.hid hown; have H4n := Lib.hid h4n; have Hen := Lib.hid hen
            clear hu hs1 hst hfl hpl hsn hown h4 h4n hen
            have hlt0 := Lib.hid had; clear had
            go_wp2_with fail
            refine (fput_any s _ (by omega)).mono ?_
            rintro e w2 ⟨rfl, hb2⟩
            rw [Hpl.out]
            have hcell2 : w2.cell? (ad.add k) = some (.string s) := (hb2.cell (p := ad.add k) (by rw [add_block]; exact Nat.lt_of_lt_of_le hlt0.out hb.size)).trans hcell
            have hown2 := own_below Hown.out hb2 (fun q hq => (Hown.out.lt q hq).2)
            have hb12 := hb.trans (hb2.mono hb.size)
            have Hown2 := Lib.hid hown2
            clear hcell hown2
            go_wp2_with (at_builtin; refine wpList_append_lies _ rfl (.tmp 62) (.tmp 65) _ rfl w.heap.size 3 i0 _ 1 8 Try.underlying33 hi0 hz0 hz1 hz2 rfl (by omega) lv k (endsV (bodies ss) k) rfl (Hown2.out.alloc _) ⟨w2.heap.size, 0, none⟩ 1 1 [.int .i64 ((layAll (bodies (ss.take k))).length + F.length : Nat)] rfl rfl (World.news_of_block (cs := #[.int .i64 ((layAll (bodies (ss.take k))).length + F.length : Nat)]) (heap_alloc_new w2 _)) (by simp [Value.oneCell']) (by omega) (by simp only [maxLen]; omega) (by omega) (by have := hb12.size; simp <;> omega) (w2.heap.size + 1) (by simp) ?_; intro g cp w3 hown3 hgrow hat1 hlt1)
            have hb3 : Below w.heap.size w w3 := (hb12.alloc hb12.size _).grown hgrow (by have := hb12.size; simp <;> omega) (fun q hq => (Hown2.out.lt q hq).1)
            go_roundw
            case rel => exact ⟨k + 1, _, rfl, by omega, by go_num, by rw [Hsn.out, str_append], H4n.out, by rw [endsV_succ, Hen.out]; exact hown3, hb3⟩
            case measure => simp [intOf]; omega
          · have hs4' : (4000 : Int) < (s.size : Int) := by omega
            clear hu hs1 h4 hown
            go_wp2_with fail
            refine (alive8_any _).mono ?_
            rintro e w2 ⟨rfl, hb2⟩
            go_wp2_with fail
            go_ret
            exact ⟨rfl, hb.trans (hb2.mono hb.size)⟩
        · obtain rfl : k = n := by omega
          have hbt : bodies (ss.take k) = bodies ss := by rw [List.take_of_length_le (by rw [Hl.out]; omega)]
          have hst : ss.take k = ss := List.take_of_length_le (by rw [Hl.out]; omega)
          rw [hst] at h4
          rw [hbt] at hkl ⊢
          have h4b : ∀ b ∈ bodies ss, b.length ≤ 4000 := by
            intro b hb2
            obtain ⟨s, hs, rfl⟩ := List.mem_map.1 hb2
            rw [← size_list]; exact h4 s hs
          have hbl : (bodies ss).length = k := by rw [bodies, List.length_map, Hl.out]
          have hendn : endsL (bodies ss) k = (layAll (bodies ss)).length := by unfold endsL; rw [List.take_of_length_le (by omega)]
          obtain ⟨L, hL⟩ : ∃ L, layAll (bodies ss) = L := ⟨_, rfl⟩
          rw [hL] at hkl hendn ⊢
          obtain ⟨kk, hkk, hkk1, hkk2⟩ : ∃ kk : Nat, min cut (L.length : Int) = (kk : Int) ∧ kk ≤ L.length ∧ (cut < (L.length : Int) → cut = (kk : Int)) := ⟨(min cut (L.length : Int)).toNat, by omega, by omega, by omega⟩
          have HL := Lib.hid hL; have Hown := Lib.hid hown; have H4b := Lib.hid h4b; have Hbl := Lib.hid hbl; have Hendn := Lib.hid hendn
          obtain ⟨Ae, ce, rfl, hce⟩ := own_slice hown
          have hse := Lib.hid (SlR.own hown)
          clear hL hown h4 h4b hbl hendn hst hbt hkk2
          go_wp2_with fail
          go_loop [11] (fun i => ∃ m : Nat, m ≤ k ∧ i = .int .i64 m ∧ endsL (bodies ss) m ≤ kk) (fun i => k - (intOf i).toNat)
          case atStart => exact ⟨0, Nat.zero_le _, rfl, by simp [endsL, layAll]⟩
          case round =>
            obtain ⟨m, hm, rfl, hem⟩ := hrel
            by_cases hlt : m < k ∧ endsL (bodies ss) (m + 1) ≤ kk
            · obtain ⟨hlt1, hlt2⟩ := hlt
              obtain ⟨ad, u, hA, had, hu, hcell⟩ := hse.out.get hlt1
              subst hA
              rw [endsV_get _ _ _ hlt1] at hu
              obtain rfl : Value.int .i64 (endsL (bodies ss) (m + 1) : Nat) = u := by injection hu
              have Hlt2 := Lib.hid hlt2
              generalize endsL (bodies ss) (m + 1) = em at hlt2 hcell ⊢
              clear hu had
              go_wp2_with fail
              go_round
              case rel => exact ⟨m + 1, by omega, by go_num, Hlt2.out⟩
              case measure => simp [intOf]; omega
            · have hex : m < k → kk < endsL (bodies ss) (m + 1) := by omega
              have hkept := framesL_kept (bodies ss) kk m H4b.out (by rw [Hbl.out]; exact hm) hem (by rw [Hbl.out]; exact hex) (by rw [HL.out]; exact hkk1)
              rw [HL.out] at hkept
              have hlenm : ((bodies ss).take m).length = m := by rw [List.length_take, Hbl.out]; omega
              have hmkm : ((bodies ss).take m).map mkS = ss.take m := by
                unfold bodies
                rw [← List.map_take, List.map_map]
                have : (mkS ∘ fun x : ByteArray => x.data.toList) = id := by funext s; exact str_ext (by simp [mkS])
                rw [this, List.map_id]
              have Hkept := Lib.hid hkept; have Hlenm := Lib.hid hlenm; have Hmkm := Lib.hid hmkm
              have hem2 : endsL (bodies ss) m ≤ 5360 := by omega
              clear hkept hlenm hmkm
              have hcellm : ∀ j, j < k → ∃ ad, Ae = some ad ∧ wr.cell? (ad.add j) = some (.int .i64 (endsL (bodies ss) (j + 1) : Nat)) := by
                intro j hj
                obtain ⟨ad, u, hA, had, hu, hcell⟩ := hse.out.get hj
                rw [endsV_get _ _ _ hj] at hu
                injection hu with hu
                subst hu
                exact ⟨ad, hA, hcell⟩
              have Hcm := Lib.hid hcellm; have Hex := Lib.hid hex; have Hem := Lib.hid hem
              clear hcellm hlt hex hem
              rcases Nat.lt_or_ge m k with hmk | hmk
              · obtain ⟨ad, hA, hcell⟩ := Hcm.out m hmk
                subst hA
                have hlt2 := Hex.out hmk
                generalize endsL (bodies ss) (m + 1) = em at hlt2 hcell
                go_wp2_with fail
                refine (all_any _ _ (by simp; omega)).mono ?_
                rintro e w2 ⟨v2, rfl, hown2, hb2⟩
                rw [show framesL ((⟨L.toArray⟩ : ByteArray).extract 0 kk).data.toList = ((bodies ss).take m, endsL (bodies ss) m) from by rw [str_to]; exact Hkept.out] at hown2 ⊢
                simp only [] at hown2
                rw [Hlenm.out, Hmkm.out] at hown2
                obtain ⟨A2, c2, rfl, hc2⟩ := own_slice hown2
                have hs2 := Lib.hid (SlR.own hown2)
                have hb12 := hb.trans (hb2.mono hb.size)
                have hr2 := (Hr.out.below hb12).first hm
                rw [Nat.mul_one, strVs, ← List.map_take] at hr2
                have Hr2 := Lib.hid hr2
                have Hcm2 := Lib.hid (carry_cells Hcm.out hb2)
                clear hr2 hown2 hb2

                have hcl : ∀ W : World, Below w.heap.size w W → 0 < k → ∃ ad s, A = some ad ∧ ss[k - 1]? = some s ∧ W.cell? (ad.add (k - 1)) = some (.string s) := by
                  intro W hW h0
                  obtain ⟨ad, u, hA, _, hu, hcell⟩ := (Hr.out.below hW).get (show k - 1 < k by omega)
                  obtain ⟨s, hs1, rfl⟩ := strVs_get hu
                  exact ⟨ad, s, hA, hs1, hcell⟩
                have Hcl := Lib.hid hcl; clear hcl

                have hb13 := hb12
                cases m with
                | zero =>
                  have he0 : endsL (bodies ss) 0 = 0 := by simp [endsL, layAll]
                  rw [he0]
                  clear he0 hem2
                  go_wp2_with fail
                  refine (sameTexts_any _ _ _ _ _ _ _ _ _ _ _ hs2.out Hr2.out (by omega) (by omega)).mono ?_
                  rintro e w3 ⟨rfl, q, rfl⟩
                  rw [show decide (ss.take 0 = ss.take 0) = true from by simp]
                  by_cases hk0 : k = 0
                  · have hd0 : ((k : Int) == 0) = true := by rw [hk0]; rfl
                    clear hk0
                    go_wp2_with fail
                    refine (alive8_any _).mono ?_
                    rintro e w4 ⟨rfl, hb4⟩
                    go_wp2_with fail
                    go_ret
                    exact ⟨rfl, below_drewN hb13 q |>.trans (hb4.mono hb13.size)⟩
                  · have hd0 : ((k : Int) == 0) = false := by rw [beq_eq_false_iff_ne]; omega
                    have hk1 : 0 < k := by omega
                    clear hk0
                    obtain ⟨ad, s, hA, hs1, hcell⟩ := Hcl.out _ hb13 hk1
                    subst hA
                    have hs3 := Hsz.out s (List.mem_of_getElem? hs1)
                    have hla : lastL L = (s.data.toList, s.size + 12, 0) := by
                      have h1 := bodies_take ss (k - 1) s hs1
                      rw [show k - 1 + 1 = k from by omega, show bodies (ss.take k) = bodies ss from by rw [List.take_of_length_le (by rw [Hl.out]; omega)]] at h1
                      rw [← HL.out, h1, layAll_snoc, last_frame _ _ (H4b.out _ (by rw [h1]; simp)), ← size_list]
                    have Hla := Lib.hid hla
                    have hls : L.length ≤ 5360 := hkl
                    clear hla hs1
                    have hi1 : ((k : Int) - 1) = ((k - 1 : Nat) : Int) := by omega
                    have hi2 : k - 1 < k := by omega
                    go_wp2_with fail
                    refine (last_any _ _ (by rw [size_mk]; omega)).mono ?_
                    rintro e w4 ⟨rfl, hb4⟩
                    rw [show lastL (ByteArray.mk L.toArray).data.toList = _ from Hla.out]
                    have hcell4 : w4.cell? (ad.add (k - 1)) = some (.string s) := (hb4.cell (p := ad.add (k - 1)) (by
                      have := World.block_lt_of_cell? _ _ hcell
                      exact this)).trans hcell
                    have hb24 := hb13.trans (below_undrewN hb4 |>.mono hb13.size)
                    clear hcell
                    go_wp2_with fail
                    refine (alive8_any _).mono ?_
                    rintro e w5 ⟨rfl, hb5⟩
                    have hcell5 : w5.cell? (ad.add (k - 1)) = some (.string s) := (hb5.cell (p := ad.add (k - 1)) (by
                      have := World.block_lt_of_cell? _ _ hcell4
                      exact this)).trans hcell4
                    clear hcell4
                    have hfin : (((s.size + 12 : Nat) : Int) == (s.size : Int) + 12) = true := by simp
                    go_wp2_with fail
                    go_ret
                    exact ⟨rfl, hb24.trans (hb5.mono hb24.size)⟩
                | succ m =>
                  obtain ⟨ad', hA', hcell'⟩ := Hcm2.out m (by omega)
                  cases hA'
                  generalize endsL (bodies ss) (m + 1) = em2 at hcell' hem2 ⊢
                  have hi1 : ((m + 1 : Nat) : Int) - 1 = (m : Int) := by omega
                  go_wp2_with fail
                  refine (sameTexts_any _ _ _ _ _ _ _ _ _ _ _ hs2.out Hr2.out (by omega) (by omega)).mono ?_
                  rintro e w3 ⟨rfl, q, rfl⟩
                  rw [show decide (ss.take (m + 1) = ss.take (m + 1)) = true from by simp]
                  by_cases hk0 : k = 0
                  · have hd0 : ((k : Int) == 0) = true := by rw [hk0]; rfl
                    clear hk0
                    go_wp2_with fail
                    refine (alive8_any _).mono ?_
                    rintro e w4 ⟨rfl, hb4⟩
                    go_wp2_with fail
                    go_ret
                    exact ⟨rfl, below_drewN hb13 q |>.trans (hb4.mono hb13.size)⟩
                  · have hd0 : ((k : Int) == 0) = false := by rw [beq_eq_false_iff_ne]; omega
                    have hk1 : 0 < k := by omega
                    clear hk0
                    obtain ⟨ad, s, hA, hs1, hcell⟩ := Hcl.out _ hb13 hk1
                    subst hA
                    have hs3 := Hsz.out s (List.mem_of_getElem? hs1)
                    have hla : lastL L = (s.data.toList, s.size + 12, 0) := by
                      have h1 := bodies_take ss (k - 1) s hs1
                      rw [show k - 1 + 1 = k from by omega, show bodies (ss.take k) = bodies ss from by rw [List.take_of_length_le (by rw [Hl.out]; omega)]] at h1
                      rw [← HL.out, h1, layAll_snoc, last_frame _ _ (H4b.out _ (by rw [h1]; simp)), ← size_list]
                    have Hla := Lib.hid hla
                    have hls : L.length ≤ 5360 := hkl
                    clear hla hs1
                    have hi1 : ((k : Int) - 1) = ((k - 1 : Nat) : Int) := by omega
                    have hi2 : k - 1 < k := by omega
                    go_wp2_with fail
                    refine (last_any _ _ (by rw [size_mk]; omega)).mono ?_
                    rintro e w4 ⟨rfl, hb4⟩
                    rw [show lastL (ByteArray.mk L.toArray).data.toList = _ from Hla.out]
                    have hcell4 : w4.cell? (ad.add (k - 1)) = some (.string s) := (hb4.cell (p := ad.add (k - 1)) (by
                      have := World.block_lt_of_cell? _ _ hcell
                      exact this)).trans hcell
                    have hb24 := hb13.trans (below_undrewN hb4 |>.mono hb13.size)
                    clear hcell
                    go_wp2_with fail
                    refine (alive8_any _).mono ?_
                    rintro e w5 ⟨rfl, hb5⟩
                    have hcell5 : w5.cell? (ad.add (k - 1)) = some (.string s) := (hb5.cell (p := ad.add (k - 1)) (by
                      have := World.block_lt_of_cell? _ _ hcell4
                      exact this)).trans hcell4
                    clear hcell4
                    have hfin : (((s.size + 12 : Nat) : Int) == (s.size : Int) + 12) = true := by simp
                    go_wp2_with fail
                    go_ret
                    exact ⟨rfl, hb24.trans (hb5.mono hb24.size)⟩
              · go_wp2_with fail
                refine (all_any _ _ (by simp; omega)).mono ?_
                rintro e w2 ⟨v2, rfl, hown2, hb2⟩
                rw [show framesL ((⟨L.toArray⟩ : ByteArray).extract 0 kk).data.toList = ((bodies ss).take m, endsL (bodies ss) m) from by rw [str_to]; exact Hkept.out] at hown2 ⊢
                simp only [] at hown2
                rw [Hlenm.out, Hmkm.out] at hown2
                obtain ⟨A2, c2, rfl, hc2⟩ := own_slice hown2
                have hs2 := Lib.hid (SlR.own hown2)
                have hb12 := hb.trans (hb2.mono hb.size)
                have hr2 := (Hr.out.below hb12).first hm
                rw [Nat.mul_one, strVs, ← List.map_take] at hr2
                have Hr2 := Lib.hid hr2
                have Hcm2 := Lib.hid (carry_cells Hcm.out hb2)
                clear hr2 hown2 hb2

                have hcl : ∀ W : World, Below w.heap.size w W → 0 < k → ∃ ad s, A = some ad ∧ ss[k - 1]? = some s ∧ W.cell? (ad.add (k - 1)) = some (.string s) := by
                  intro W hW h0
                  obtain ⟨ad, u, hA, _, hu, hcell⟩ := (Hr.out.below hW).get (show k - 1 < k by omega)
                  obtain ⟨s, hs1, rfl⟩ := strVs_get hu
                  exact ⟨ad, s, hA, hs1, hcell⟩
                have Hcl := Lib.hid hcl; clear hcl

                have hb13 := hb12
                cases m with
                | zero =>
                  have he0 : endsL (bodies ss) 0 = 0 := by simp [endsL, layAll]
                  rw [he0]
                  clear he0 hem2
                  go_wp2_with fail
                  refine (sameTexts_any _ _ _ _ _ _ _ _ _ _ _ hs2.out Hr2.out (by omega) (by omega)).mono ?_
                  rintro e w3 ⟨rfl, q, rfl⟩
                  rw [show decide (ss.take 0 = ss.take 0) = true from by simp]
                  by_cases hk0 : k = 0
                  · have hd0 : ((k : Int) == 0) = true := by rw [hk0]; rfl
                    clear hk0
                    go_wp2_with fail
                    refine (alive8_any _).mono ?_
                    rintro e w4 ⟨rfl, hb4⟩
                    go_wp2_with fail
                    go_ret
                    exact ⟨rfl, below_drewN hb13 q |>.trans (hb4.mono hb13.size)⟩
                  · have hd0 : ((k : Int) == 0) = false := by rw [beq_eq_false_iff_ne]; omega
                    have hk1 : 0 < k := by omega
                    clear hk0
                    obtain ⟨ad, s, hA, hs1, hcell⟩ := Hcl.out _ hb13 hk1
                    subst hA
                    have hs3 := Hsz.out s (List.mem_of_getElem? hs1)
                    have hla : lastL L = (s.data.toList, s.size + 12, 0) := by
                      have h1 := bodies_take ss (k - 1) s hs1
                      rw [show k - 1 + 1 = k from by omega, show bodies (ss.take k) = bodies ss from by rw [List.take_of_length_le (by rw [Hl.out]; omega)]] at h1
                      rw [← HL.out, h1, layAll_snoc, last_frame _ _ (H4b.out _ (by rw [h1]; simp)), ← size_list]
                    have Hla := Lib.hid hla
                    have hls : L.length ≤ 5360 := hkl
                    clear hla hs1
                    have hi1 : ((k : Int) - 1) = ((k - 1 : Nat) : Int) := by omega
                    have hi2 : k - 1 < k := by omega
                    go_wp2_with fail
                    refine (last_any _ _ (by rw [size_mk]; omega)).mono ?_
                    rintro e w4 ⟨rfl, hb4⟩
                    rw [show lastL (ByteArray.mk L.toArray).data.toList = _ from Hla.out]
                    have hcell4 : w4.cell? (ad.add (k - 1)) = some (.string s) := (hb4.cell (p := ad.add (k - 1)) (by
                      have := World.block_lt_of_cell? _ _ hcell
                      exact this)).trans hcell
                    have hb24 := hb13.trans (below_undrewN hb4 |>.mono hb13.size)
                    clear hcell
                    go_wp2_with fail
                    refine (alive8_any _).mono ?_
                    rintro e w5 ⟨rfl, hb5⟩
                    have hcell5 : w5.cell? (ad.add (k - 1)) = some (.string s) := (hb5.cell (p := ad.add (k - 1)) (by
                      have := World.block_lt_of_cell? _ _ hcell4
                      exact this)).trans hcell4
                    clear hcell4
                    have hfin : (((s.size + 12 : Nat) : Int) == (s.size : Int) + 12) = true := by simp
                    go_wp2_with fail
                    go_ret
                    exact ⟨rfl, hb24.trans (hb5.mono hb24.size)⟩
                | succ m =>
                  obtain ⟨ad', hA', hcell'⟩ := Hcm2.out m (by omega)
                  cases hA'
                  generalize endsL (bodies ss) (m + 1) = em2 at hcell' hem2 ⊢
                  have hi1 : ((m + 1 : Nat) : Int) - 1 = (m : Int) := by omega
                  go_wp2_with fail
                  refine (sameTexts_any _ _ _ _ _ _ _ _ _ _ _ hs2.out Hr2.out (by omega) (by omega)).mono ?_
                  rintro e w3 ⟨rfl, q, rfl⟩
                  rw [show decide (ss.take (m + 1) = ss.take (m + 1)) = true from by simp]
                  by_cases hk0 : k = 0
                  · have hd0 : ((k : Int) == 0) = true := by rw [hk0]; rfl
                    clear hk0
                    go_wp2_with fail
                    refine (alive8_any _).mono ?_
                    rintro e w4 ⟨rfl, hb4⟩
                    go_wp2_with fail
                    go_ret
                    exact ⟨rfl, below_drewN hb13 q |>.trans (hb4.mono hb13.size)⟩
                  · have hd0 : ((k : Int) == 0) = false := by rw [beq_eq_false_iff_ne]; omega
                    have hk1 : 0 < k := by omega
                    clear hk0
                    obtain ⟨ad, s, hA, hs1, hcell⟩ := Hcl.out _ hb13 hk1
                    subst hA
                    have hs3 := Hsz.out s (List.mem_of_getElem? hs1)
                    have hla : lastL L = (s.data.toList, s.size + 12, 0) := by
                      have h1 := bodies_take ss (k - 1) s hs1
                      rw [show k - 1 + 1 = k from by omega, show bodies (ss.take k) = bodies ss from by rw [List.take_of_length_le (by rw [Hl.out]; omega)]] at h1
                      rw [← HL.out, h1, layAll_snoc, last_frame _ _ (H4b.out _ (by rw [h1]; simp)), ← size_list]
                    have Hla := Lib.hid hla
                    have hls : L.length ≤ 5360 := hkl
                    clear hla hs1
                    have hi1 : ((k : Int) - 1) = ((k - 1 : Nat) : Int) := by omega
                    have hi2 : k - 1 < k := by omega
                    go_wp2_with fail
                    refine (last_any _ _ (by rw [size_mk]; omega)).mono ?_
                    rintro e w4 ⟨rfl, hb4⟩
                    rw [show lastL (ByteArray.mk L.toArray).data.toList = _ from Hla.out]
                    have hcell4 : w4.cell? (ad.add (k - 1)) = some (.string s) := (hb4.cell (p := ad.add (k - 1)) (by
                      have := World.block_lt_of_cell? _ _ hcell
                      exact this)).trans hcell
                    have hb24 := hb13.trans (below_undrewN hb4 |>.mono hb13.size)
                    clear hcell
                    go_wp2_with fail
                    refine (alive8_any _).mono ?_
                    rintro e w5 ⟨rfl, hb5⟩
                    have hcell5 : w5.cell? (ad.add (k - 1)) = some (.string s) := (hb5.cell (p := ad.add (k - 1)) (by
                      have := World.block_lt_of_cell? _ _ hcell4
                      exact this)).trans hcell4
                    clear hcell4
                    have hfin : (((s.size + 12 : Nat) : Int) == (s.size : Int) + 12) = true := by simp
                    go_wp2_with fail
                    go_ret
                    exact ⟨rfl, hb24.trans (hb5.mono hb24.size)⟩
    · have hcn' : cut < 0 := by omega
      clear hr
      go_enter Try.func5, Try.ntmps5
      go_wp2_with fail
      refine Hsh.out.mono ?_
      rintro e w1 ⟨rfl, hb1⟩
      rw [Hc.out]
      go_wp2_with fail
      refine (alive8_any _).mono ?_
      rintro e w2 ⟨rfl, hb2⟩
      go_wp2_with fail
      go_ret
      exact ⟨rfl, hb1.trans (hb2.mono hb1.size)⟩
end Go.Proofs.Ytfkdkhcpmoohiaa
