/- chapter 10: ChunkKept, walked, a chunk that is done. -/
import Derived.Test.YtolgjknpifpmbaaLaw10Pre
import Derived.Deep.RegionHeld3
namespace Go.Proofs.Ytolgjknpifpmbaa
open Go.RowKit
set_option maxHeartbeats 20000000
set_option maxRecDepth 100000
set_option linter.unusedVariables false

theorem chunkKept_true (n : Int) (A : Option Addr) (nn cap : Nat) (ss : List ByteArray) (cut : Int) (more : ByteArray) (w : World) (hl : ss.length = nn) (hr : SlR w w.heap.size 1 A nn (strVs ss))
    (hs : ∀ s ∈ ss, s.size ≤ 9223372036854775807) (hnc : nn ≤ cap) (hcm : cap ≤ 9223372036854775807) (hcut : cut ≤ 9223372036854775807) (hmore : more.size ≤ 9223372036854775807) :
    Calls Try.prog 3 #[.int .i64 n, .slice A nn cap, .bool true, .int .i64 cut, .string more] w fun e w' => e = .returned (.bool true) ∧ Below w.heap.size w w' := by
  have hsh := short_any 30 5000 nn cap w.heap.size A ss w hr (Nat.le_refl _) (by omega) hs (by omega) (by omega)
  have Hsh := Lib.hid hsh; clear hsh
  by_cases t0 : 0 ≤ n
  · by_cases t1 : n ≤ 999999
    · cases hc : shortB 30 5000 ss with
      | false =>
        have Hc := Lib.hid hc; clear hc hr
        go_enter Try.func3, Try.ntmps3
        go_wp2_with fail
        refine Hsh.out.mono ?_
        rintro e w1 ⟨rfl, hb1⟩
        rw [Hc.out]
        go_wp2_with fail
        refine (alive10_any _).mono ?_
        rintro e w2 ⟨rfl, hb2⟩
        go_wp2_with fail
        go_ret
        exact ⟨rfl, hb1.trans (hb2.mono hb1.size)⟩
      | true =>
        have hfew : nn ≤ 30 ∧ bytesOf ss ≤ 5000 := by unfold shortB at hc; rw [decide_eq_true_iff] at hc; omega
        have Hc := Lib.hid hc; clear hc
        by_cases t2 : 0 ≤ cut
        · by_cases t3 : more.size ≤ 300
          · skip
            obtain ⟨hf1, hf2⟩ := hfew
            obtain ⟨i0, hi0, hz0, hz1, hz2⟩ := info_parts info_int10
            have hall : ∀ k, (layAll (recs (bodies (ss.take k)))).length ≤ 5390 := fun k => layRecs_take_le ss k 30 5000 (by omega) hf2
            have hsz : ∀ s ∈ ss, s.size ≤ 5000 := fun s h => Nat.le_trans (size_le_bytesOf ss s h) hf2
            have hst := start_ok n 9000 (by omega) (by decide)
            obtain ⟨P, hP⟩ : ∃ P, frameL (startB n 9000) = P := ⟨_, rfl⟩
            have hPl : P.length = 33 := by rw [← hP, frameL_length, startB_length]
            rw [hP] at hst
            have Hr := Lib.hid hr; have Hl := Lib.hid hl; have Hall := Lib.hid hall; have Hsz := Lib.hid hsz; have HP := Lib.hid hP; have Hst := Lib.hid hst
            clear hr hl hall hsz hs hP hst
            go_enter Try.func3, Try.ntmps3
            go_wp2_with fail
            refine Hsh.out.mono ?_
            rintro e w1 ⟨rfl, hb1⟩
            rw [Hc.out]
            go_wp2_with fail
            refine (start_any n 9000 _).mono ?_
            rintro e w2 ⟨rfl, hb2⟩
            rw [Hst.out]
            have hb12 := hb1.trans (hb2.mono hb1.size)
            clear hb1 hb2
            go_wp2_with fail
            go_loopw [11, 14, 15] (fun t o i wr => ∃ (k : Nat) (lv : Value), lv = o ∧ k ≤ nn ∧ i = .int .i64 k ∧ t = .string ⟨(P ++ layAll (recs (bodies (ss.take k)))).toArray⟩ ∧ (∀ s ∈ ss.take k, s.size < 4000) ∧
                wr.ownsRow w.heap.size 3 1 lv k (endsV (bodies ss) k) ∧ Below w.heap.size w wr) (fun _ _ i _ => nn - (intOf i).toNat)
            case atStart => exact ⟨0, _, rfl, Nat.zero_le _, rfl, by simp [bodies, recs, layAll], by simp, World.ownsRow_nil _ _ _ _, hb12⟩
            case round =>
              obtain ⟨k, lv, rfl, hk, rfl, rfl, h4, hown, hb⟩ := hrel
              have hkl := Hall.out k
              by_cases hlt : k < nn
              · obtain ⟨ad, u, hA, had, hu, hcell⟩ := (Hr.out.below hb).get hlt
                subst hA
                obtain ⟨s, hs1, rfl⟩ := strVs_get hu
                have hs3 := Hsz.out s (List.mem_of_getElem? hs1)
                by_cases hs4 : s.size < 4000
                · have hs4' : (s.size : Int) < 4000 := by omega
                  have hbt := bodies_take ss k s hs1
                  have hfl : (frameL (1 :: s.data.toList)).length = s.size + 13 := by rw [frameL_length, List.length_cons, ← size_list]
                  have hpl := record_ok s.data.toList (by rw [← size_list]; exact hs4)
                  have hsn := layRecs_snoc (bodies (ss.take k)) s.data.toList
                  have h4n : ∀ t ∈ ss.take (k + 1), t.size < 4000 := by
                    intro t ht
                    rw [List.take_add_one, hs1] at ht
                    rcases List.mem_append.1 ht with ht | ht
                    · exact h4 t ht
                    · have : t = s := by simpa using ht
                      rw [this]; exact hs4
                  have hen := endsR_bodies ss (k + 1)
                  rw [← hbt] at hsn
                  rw [hsn, List.length_append] at hen
                  generalize frameL (1 :: s.data.toList) = Fr at hfl hpl hsn hen
                  have hF : Fr.length ≤ 4012 := by omega
                  have hne : ((Fr.length : Int) != (s.size : Int) + 13) = false := by rw [hfl]; simp
                  have hjn : P ++ layAll (recs (bodies (ss.take (k + 1)))) = P ++ layAll (recs (bodies (ss.take k))) ++ Fr := by rw [hsn, List.append_assoc]
                  have Hpl := Lib.hid hpl; have Hjn := Lib.hid hjn; have Hown := Lib.hid hown; have H4n := Lib.hid h4n
                  clear hu hs1 hbt hpl hsn hown h4 h4n hjn
                  obtain ⟨X, hX⟩ : ∃ X, P ++ layAll (recs (bodies (ss.take k))) = X := ⟨_, rfl⟩
                  have hXl : X.length + Fr.length = 33 + endsL (recs (bodies ss)) (k + 1) := by rw [← hX, hen, List.length_append, hPl]; omega
                  have hXs : X.length ≤ 5423 := by rw [← hX, List.length_append, hPl]; omega
                  rw [hX] at Hjn ⊢
                  have hlt0 := Lib.hid had; have Hfl := Lib.hid hfl; have HXl := Lib.hid hXl
                  clear hX hen had hfl hXl
                  go_wp2_with fail
                  refine (record_any s _ (by omega)).mono ?_
                  rintro e w3 ⟨rfl, hb3⟩
                  rw [Hpl.out]
                  have hcell2 : w3.cell? (ad.add k) = some (.string s) := (hb3.cell (p := ad.add k) (by rw [add_block]; exact Nat.lt_of_lt_of_le hlt0.out hb.size)).trans hcell
                  have hown2 := own_below Hown.out hb3 (fun q hq => (Hown.out.lt q hq).2)
                  have hb13 := hb.trans (hb3.mono hb.size)
                  have Hown2 := Lib.hid hown2
                  clear hcell hown2 hb3
                  go_wp2_with (at_builtin; refine wpList_append_lies _ rfl (.tmp 101) (.tmp 104) _ rfl w.heap.size 3 i0 _ 1 8 Try.underlying28 hi0 hz0 hz1 hz2 rfl (by omega) lv k (endsV (bodies ss) k) rfl (Hown2.out.alloc _) ⟨w3.heap.size, 0, none⟩ 1 1 [.int .i64 ((X.length : Int) + (Fr.length : Int))] rfl rfl (World.news_of_block (cs := #[.int .i64 ((X.length : Int) + (Fr.length : Int))]) (heap_alloc_new w3 _)) (by simp [Value.oneCell']) (by omega) (by simp only [maxLen]; omega) (by omega) (by have := hb13.size; simp <;> omega) (w3.heap.size + 1) (by simp) ?_; intro g cp w4 hown4 hgrow hat1 hlt1)
                  have hb4 : Below w.heap.size w w4 := (hb13.alloc hb13.size _).grown hgrow (by have := hb13.size; simp <;> omega) (fun q hq => (Hown2.out.lt q hq).1)
                  go_roundw
                  case rel => exact ⟨k + 1, _, rfl, by omega, by go_num, by rw [Hjn.out, str_append], H4n.out, by rw [endsV_succ, ← HXl.out, Int.natCast_add]; exact hown4, hb4⟩
                  case measure => simp [intOf]; omega
                · have hs4' : (4000 : Int) ≤ (s.size : Int) := by omega
                  clear hu hs1 h4 hown
                  go_wp2_with fail
                  refine (alive10_any _).mono ?_
                  rintro e w3 ⟨rfl, hb3⟩
                  go_wp2_with fail
                  go_ret
                  exact ⟨rfl, hb.trans (hb3.mono hb.size)⟩
              · obtain rfl : k = nn := by omega
                have hsa : ss.take k = ss := List.take_of_length_le (by rw [Hl.out]; omega)
                rw [hsa] at h4 hkl ⊢
                have h4b : ∀ b ∈ bodies ss, b.length < 4000 := by
                  intro b hb2
                  obtain ⟨s, hs, rfl⟩ := List.mem_map.1 hb2
                  rw [← size_list]; exact h4 s hs
                have hbl : (bodies ss).length = k := by rw [bodies, List.length_map, Hl.out]
                obtain ⟨L, hL⟩ : ∃ L, P ++ layAll (recs (bodies ss)) = L := ⟨_, rfl⟩
                have hLl : L.length = 33 + (layAll (recs (bodies ss))).length := by rw [← hL, List.length_append, hPl]
                have hLs : 33 ≤ L.length ∧ L.length ≤ 5423 := by omega
                rw [hL]
                obtain ⟨hLs1, hLs2⟩ := hLs
                obtain ⟨kk, hkk, hkk0, hkk1⟩ : ∃ kk : Nat, min (max cut 33) (L.length : Int) = (kk : Int) ∧ 33 ≤ kk ∧ kk ≤ L.length := ⟨(min (max cut 33) (L.length : Int)).toNat, by omega, by omega, by omega⟩
                obtain ⟨jj, hjj, hjj1⟩ : ∃ jj : Nat, min cut 32 = (jj : Int) ∧ jj ≤ 32 := ⟨(min cut 32).toNat, by omega, by omega⟩
                have hcb : beginL (L.take jj) = none := by rw [← hL, ← HP.out]; exact begin_cut n 9000 _ jj (by omega)
                have hbk : beginL (L.take kk) = some (n, 9000, 33) := by
                  rw [← hL, List.take_append, List.take_of_length_le (by omega), ← HP.out]; exact begin_start n 9000 _ (by omega) (by decide)
                have HL := Lib.hid hL; have H4b := Lib.hid h4b; have Hbl := Lib.hid hbl; have Hcb := Lib.hid hcb; have Hbk := Lib.hid hbk; have HLl := Lib.hid hLl
                obtain ⟨Ae, ce, rfl, hce⟩ := own_slice hown
                have Hown := Lib.hid hown
                clear hL hown h4 h4b hbl hsa hcb hbk hkl hLl
                have hkd := kept_done n (bodies ss) P more.data.toList hPl ⟨t0, t1⟩ H4b.out (by rw [Hbl.out]; omega)
                rw [HL.out, Hbl.out] at hkd
                have hfo := finish_ok n (k : Int) ⟨t0, t1⟩ (by omega)
                obtain ⟨Fn, hFn⟩ : ∃ Fn, frameL (finishB n (k : Int)) = Fn := ⟨_, rfl⟩
                have hFl : Fn.length = 33 := by rw [← hFn, frameL_length, finishB_length]
                rw [hFn] at hkd hfo
                have hbg2 : beginL (L ++ Fn ++ more.data.toList) = some (n, 9000, 33) := by
                  rw [← HL.out, ← HP.out, List.append_assoc, List.append_assoc]; exact begin_start n 9000 _ ⟨t0, t1⟩ (by decide)
                have hx2 : (⟨L.toArray⟩ ++ ⟨Fn.toArray⟩ ++ more : ByteArray).data.toList = L ++ Fn ++ more.data.toList := by simp
                have hall2 : (bodies ss).map mkS = ss := by have := bodies_mk ss ss.length; rwa [List.take_of_length_le (by simp [bodies]), List.take_of_length_le (Nat.le_refl _)] at this
                have hgd : ((L.length : Int) + 33 != (L.length : Int) + (Fn.length : Int)) = false := by rw [hFl]; simp
                have hFs : Fn.length ≤ 33 := by omega
                have Hkd := Lib.hid hkd; have Hfo := Lib.hid hfo; have Hbg2 := Lib.hid hbg2; have Hx2 := Lib.hid hx2; have Hall2 := Lib.hid hall2; have HFn := Lib.hid hFn
                clear hkd hfo hbg2 hx2 hall2 hFl hFn
                go_wp2_with fail
                refine (finish_any n (k : Int) _).mono ?_
                rintro e wf ⟨rfl, hbf⟩
                rw [Hfo.out]
                go_wp2_with fail
                refine (read_any _ _ (by rw [ByteArray.size_append, ByteArray.size_append, size_mk, size_mk]; omega) n 9000 33 (by rw [Hx2.out]; exact Hbg2.out)).mono ?_
                rintro e wg ⟨v2, rfl, hown5, hb5⟩
                rw [show readRest n (⟨L.toArray⟩ ++ ⟨Fn.toArray⟩ ++ more : ByteArray).data.toList [] 33 = (bodies ss, L.length + 33, true) from by rw [Hx2.out]; exact Hkd.out] at hown5 ⊢
                simp only [] at hown5 ⊢
                rw [Hbl.out, Hall2.out] at hown5
                obtain ⟨A2, c2, rfl, hc2⟩ := own_slice hown5
                have Hs5 := Lib.hid (SlR.own hown5)
                have hbg := hbf.trans (hb5.mono hbf.size)
                have Hr5 := Lib.hid ((Hr.out.below hb).below (hbg.mono hb.size))
                have hX := BlkIs.new wg 31 #[.int .i64 n, .int .i64 9000, .slice A2 k c2, .int .i64 ((L.length : Int) + 33), .bool true]
                have hbX := hbg.alloc hbg.size (.cells #[.int .i64 n, .int .i64 9000, .slice A2 k c2, .int .i64 ((L.length : Int) + 33), .bool true] 31)
                have HbX := Lib.hid hbX
                have hlg : w.heap.size ≤ wg.heap.size := Nat.le_trans hb.size hbg.size
                clear hown5 hX hb5 hbf hbX
                go_wp2_with fail
                go_wp2_with (go_at_call 13; go_loud (refine (sameTexts_any wg.heap.size w.heap.size k k c2 cap A2 A ss ss _ (by have h7 := Hs5.out.alloc (Nat.le_refl _) (.cells #[.int .i64 n, .int .i64 9000, .slice A2 k c2, .int .i64 ((L.length : Int) + 33), .bool true] 31); first | exact h7 | exact h7.drew | exact h7.drewN _) (by have h7 := Hr5.out.alloc hlg (.cells #[.int .i64 n, .int .i64 9000, .slice A2 k c2, .int .i64 ((L.length : Int) + 33), .bool true] 31); first | exact h7 | exact h7.drew | exact h7.drewN _) (by omega) (by omega)).mono ?_; rintro e w8 ⟨rfl, q, hq⟩; rw [show decide (ss = ss) = true from decide_eq_true rfl]; have Hb8 := Lib.hid (show Below wr.heap.size wr w8 from by rw [hq]; exact ⟨HbX.out.os, HbX.out.tape, HbX.out.output, HbX.out.size, HbX.out.block⟩); clear hq))
                have hbT : Below w.heap.size w w8 := hb.trans (Hb8.out.mono hb.size)
                have HownT := Lib.hid (own_below Hown.out Hb8.out (fun q hq => (Hown.out.lt q hq).2))
                have hse := Lib.hid (SlR.own HownT.out)
                go_wp2_with fail
                go_loop [23] (fun i => ∃ m : Nat, m ≤ k ∧ i = .int .i64 m ∧ 33 + endsL (recs (bodies ss)) m ≤ kk) (fun i => k - (intOf i).toNat)
                case atStart => exact ⟨0, Nat.zero_le _, rfl, by simp [endsL, layAll]; omega⟩
                case round =>
                  obtain ⟨m, hm, rfl, hem⟩ := hrel
                  by_cases hlt : m < k ∧ 33 + endsL (recs (bodies ss)) (m + 1) ≤ kk
                  · obtain ⟨hlt1, hlt2⟩ := hlt
                    obtain ⟨ad, u, hA, had, hu, hcell⟩ := hse.out.get hlt1
                    subst hA
                    rw [endsV_get _ _ _ hlt1] at hu
                    obtain rfl : Value.int .i64 (33 + endsL (recs (bodies ss)) (m + 1) : Nat) = u := by injection hu
                    have Hlt2 := Lib.hid hlt2
                    generalize 33 + endsL (recs (bodies ss)) (m + 1) = em at hlt2 hcell ⊢
                    clear hu had
                    go_wp2_with fail
                    go_round
                    case rel => exact ⟨m + 1, by omega, by go_num, Hlt2.out⟩
                    case measure => simp [intOf]; omega
                  · have hex : m < k → kk < 33 + endsL (recs (bodies ss)) (m + 1) := by omega
                    have hkept := rest_kept n (bodies ss) P kk m H4b.out (by rw [Hbl.out]; exact hm) (by rw [hPl]; exact hem) (by rw [Hbl.out, hPl]; exact hex)
                    rw [HL.out, hPl] at hkept
                    have hlenm : ((bodies ss).take m).length = m := by rw [List.length_take, Hbl.out]; omega
                    have hmkm := bodies_mk ss m
                    have hcellm : ∀ j, j < k → ∃ ad, Ae = some ad ∧ w8.cell? (ad.add j) = some (.int .i64 (33 + endsL (recs (bodies ss)) (j + 1) : Nat)) := by
                      intro j hj
                      obtain ⟨ad, u, hA, had, hu, hcell⟩ := hse.out.get hj
                      rw [endsV_get _ _ _ hj] at hu
                      injection hu with hu
                      subst hu
                      exact ⟨ad, hA, hcell⟩
                    have hr2 := (Hr.out.below hbT).first hm
                    rw [Nat.mul_one, strVs, ← List.map_take] at hr2
                    obtain ⟨E, hE⟩ : ∃ E, endsL (recs (bodies ss)) m = E := ⟨_, rfl⟩
                    rw [hE] at hkept hem
                    have hE0 : m = 0 → E = 0 := by intro h; rw [← hE, h]; simp [endsL, layAll]
                    have Hkept := Lib.hid hkept; have Hlenm := Lib.hid hlenm; have Hmkm := Lib.hid hmkm; have Hcm := Lib.hid hcellm; have Hex := Lib.hid hex; have Hr2 := Lib.hid hr2
                    have hem2 : E ≤ 5423 := by omega
                    have hdm : (∃ ad u, m < k ∧ Ae = some ad ∧ w8.cell? (ad.add m) = some (.int .i64 u) ∧ (kk : Int) < u) ∨ m = k := by
                      by_cases hmk : m < k
                      · obtain ⟨ad, hA, hc⟩ := Hcm.out m hmk
                        exact .inl ⟨ad, _, hmk, hA, hc, by have := Hex.out hmk; omega⟩
                      · exact .inr (by omega)
                    have hdz : (∃ ad, Ae = some ad ∧ 0 < m ∧ ((m : Int) - 1 = ((m - 1 : Nat) : Int)) ∧ w8.cell? (ad.add (m - 1)) = some (.int .i64 (33 + (E : Int)))) ∨ ((m : Int) ≤ 0 ∧ E = 0) := by
                      by_cases h0 : 0 < m
                      · obtain ⟨ad, hA, hc⟩ := Hcm.out (m - 1) (by omega)
                        rw [show m - 1 + 1 = m from by omega, hE, Int.natCast_add] at hc
                        exact .inl ⟨ad, hA, h0, by omega, hc⟩
                      · exact .inr ⟨by omega, hE0 (by omega)⟩
                    clear hkept hlenm hmkm hcellm hex hem hr2 hlt hE hE0
                    rcases hdm with ⟨ad, u, hmk, hA, hcell, hku⟩ | hmk
                    · rcases hdz with ⟨ad', hA', hm0, hm1, hcellz⟩ | ⟨hm0, hE0⟩
                      · have hlt1 : m - 1 < k := by omega
                        cases hA
                        cases hA'
                        go_wp2_with fail
                        refine (read_any _ _ (by simp; omega) n 9000 33 (by rw [str_to]; exact Hbk.out)).mono ?_
                        rintro e w5 ⟨v2, rfl, hown5, hb5⟩
                        rw [show readRest n ((⟨L.toArray⟩ : ByteArray).extract 0 kk).data.toList [] 33 = ((bodies ss).take m, 33 + E, false) from by rw [str_to]; exact Hkept.out] at hown5 ⊢
                        simp only [] at hown5 ⊢
                        rw [Hlenm.out, Hmkm.out] at hown5
                        obtain ⟨A2, c2, rfl, hc2⟩ := own_slice hown5
                        have Hs5 := Lib.hid (SlR.own hown5)
                        have Hr5 := Lib.hid (Hr2.out.below (hb5.mono hbT.size))
                        have hb15 := hbT.trans (hb5.mono hbT.size)
                        clear hown5 hb5
                        go_wp2_with fail
                        have hX := BlkIs.new w5 31 #[.int .i64 n, .int .i64 9000, .slice A2 m c2, .int .i64 (33 + (E : Int)), .bool false]
                        refine (readBad_any _ _ (by simp; omega) (by rw [str_to]; exact Hcb.out)).mono ?_
                        rintro e w6 ⟨rfl, hb6⟩
                        have HX6 := Lib.hid (hX.below hb6 (by simp))
                        have hb56 := ((Below.refl w5.heap.size w5).alloc (Nat.le_refl _) (.cells #[.int .i64 n, .int .i64 9000, .slice A2 m c2, .int .i64 (33 + (E : Int)), .bool false] 31)).trans (hb6.mono (by simp))
                        clear hX hb6
                        go_wp2_with fail
                        have hmc : (m : Int) ≤ (cap : Int) := by omega
                        have hm00 : 0 ≤ (m : Int) := by omega
                        have hs6 := Hs5.out.below hb56
                        have hr6 := Hr5.out.below (hb56.mono hb15.size)
                        have hx60 := HX6.out.cell 0
                        have hx62 := HX6.out.cell 2
                        have hx63 := HX6.out.cell 3
                        have hx64 := HX6.out.cell 4
                        simp at hx60 hx62 hx63 hx64
                        have hlt6 : w5.heap.size < w6.heap.size := HX6.out.lt
                        have Hs6 := Lib.hid hs6; have Hr6 := Lib.hid hr6
                        clear hs6 hr6
                        go_region_held3 (fun wx => wx.cell? ⟨w5.heap.size, 0, none⟩ = some (.int .i64 n) ∧ wx.cell? ⟨w5.heap.size, 2, none⟩ = some (.slice A2 m c2) ∧ wx.cell? ⟨w5.heap.size, 3, none⟩ = some (.int .i64 (33 + (E : Int))) ∧ wx.cell? ⟨w5.heap.size, 4, none⟩ = some (.bool false))
                          (first | go_keep | exact ⟨hk0, hk2, hk3, hk4⟩)
                          ((first
                            | (go_at_call 8; refine (alive10_any _).mono ?_; rintro e w7 ⟨rfl, hb7⟩; have hk : ∀ i, w7.cell? ⟨w5.heap.size, i, none⟩ = w6.cell? ⟨w5.heap.size, i, none⟩ := fun i => (hb7.cell (p := ⟨w5.heap.size, i, none⟩) (by simp; omega)).trans (World.cell?_alloc_lt w6 _ _ hlt6); have hk0 := (hk 0).trans hx60; have hk2 := (hk 2).trans hx62; have hk3 := (hk 3).trans hx63; have hk4 := (hk 4).trans hx64; have hb67 : Below w6.heap.size w6 w7 := ((Below.refl _ _).alloc (Nat.le_refl _) (.cells #[.int .i64 0, .int .i64 0, .slice none 0 0, .int .i64 0, .bool false] 31)).trans (below_undrew (hb7.mono (by simp))); clear hk)
                            | (go_at_call 13; refine (sameTexts_any w5.heap.size w.heap.size m m c2 cap A2 A (ss.take m) (ss.take m) _ (by have h7 := Hs6.out.below (hb67.mono (Nat.le_of_lt hlt6)); first | exact h7 | exact h7.drew | exact h7.drewN _) (by have h7 := Hr6.out.below (hb67.mono (Nat.le_trans hb15.size (Nat.le_of_lt hlt6))); first | exact h7 | exact h7.drew | exact h7.drewN _) (by omega) (by omega)).mono ?_; rintro e w8 ⟨rfl, q, rfl⟩; rw [show decide (ss.take m = ss.take m) = true from decide_eq_true rfl])))
                        go_wp2_with fail
                        go_ret
                        exact ⟨rfl, by have h8 := hb15.trans ((hb56.trans (hb67.mono (Nat.le_of_lt hlt6))).mono hb15.size); exact ⟨h8.os, h8.tape, h8.output, h8.size, h8.block⟩⟩
                      · cases hA
                        subst hE0
                        go_wp2_with fail
                        refine (read_any _ _ (by simp; omega) n 9000 33 (by rw [str_to]; exact Hbk.out)).mono ?_
                        rintro e w5 ⟨v2, rfl, hown5, hb5⟩
                        rw [show readRest n ((⟨L.toArray⟩ : ByteArray).extract 0 kk).data.toList [] 33 = ((bodies ss).take m, 33 + 0, false) from by rw [str_to]; exact Hkept.out] at hown5 ⊢
                        simp only [] at hown5 ⊢
                        rw [Hlenm.out, Hmkm.out] at hown5
                        obtain ⟨A2, c2, rfl, hc2⟩ := own_slice hown5
                        have Hs5 := Lib.hid (SlR.own hown5)
                        have Hr5 := Lib.hid (Hr2.out.below (hb5.mono hbT.size))
                        have hb15 := hbT.trans (hb5.mono hbT.size)
                        clear hown5 hb5
                        go_wp2_with fail
                        have hX := BlkIs.new w5 31 #[.int .i64 n, .int .i64 9000, .slice A2 m c2, .int .i64 (33), .bool false]
                        refine (readBad_any _ _ (by simp; omega) (by rw [str_to]; exact Hcb.out)).mono ?_
                        rintro e w6 ⟨rfl, hb6⟩
                        have HX6 := Lib.hid (hX.below hb6 (by simp))
                        have hb56 := ((Below.refl w5.heap.size w5).alloc (Nat.le_refl _) (.cells #[.int .i64 n, .int .i64 9000, .slice A2 m c2, .int .i64 (33), .bool false] 31)).trans (hb6.mono (by simp))
                        clear hX hb6
                        go_wp2_with fail
                        have hmc : (m : Int) ≤ (cap : Int) := by omega
                        have hm00 : 0 ≤ (m : Int) := by omega
                        have hs6 := Hs5.out.below hb56
                        have hr6 := Hr5.out.below (hb56.mono hb15.size)
                        have hx60 := HX6.out.cell 0
                        have hx62 := HX6.out.cell 2
                        have hx63 := HX6.out.cell 3
                        have hx64 := HX6.out.cell 4
                        simp at hx60 hx62 hx63 hx64
                        have hlt6 : w5.heap.size < w6.heap.size := HX6.out.lt
                        have Hs6 := Lib.hid hs6; have Hr6 := Lib.hid hr6
                        clear hs6 hr6
                        go_region_held3 (fun wx => wx.cell? ⟨w5.heap.size, 0, none⟩ = some (.int .i64 n) ∧ wx.cell? ⟨w5.heap.size, 2, none⟩ = some (.slice A2 m c2) ∧ wx.cell? ⟨w5.heap.size, 3, none⟩ = some (.int .i64 (33)) ∧ wx.cell? ⟨w5.heap.size, 4, none⟩ = some (.bool false))
                          (first | go_keep | exact ⟨hk0, hk2, hk3, hk4⟩)
                          ((first
                            | (go_at_call 8; refine (alive10_any _).mono ?_; rintro e w7 ⟨rfl, hb7⟩; have hk : ∀ i, w7.cell? ⟨w5.heap.size, i, none⟩ = w6.cell? ⟨w5.heap.size, i, none⟩ := fun i => (hb7.cell (p := ⟨w5.heap.size, i, none⟩) (by simp; omega)).trans (World.cell?_alloc_lt w6 _ _ hlt6); have hk0 := (hk 0).trans hx60; have hk2 := (hk 2).trans hx62; have hk3 := (hk 3).trans hx63; have hk4 := (hk 4).trans hx64; have hb67 : Below w6.heap.size w6 w7 := ((Below.refl _ _).alloc (Nat.le_refl _) (.cells #[.int .i64 0, .int .i64 0, .slice none 0 0, .int .i64 0, .bool false] 31)).trans (below_undrew (hb7.mono (by simp))); clear hk)
                            | (go_at_call 13; refine (sameTexts_any w5.heap.size w.heap.size m m c2 cap A2 A (ss.take m) (ss.take m) _ (by have h7 := Hs6.out.below (hb67.mono (Nat.le_of_lt hlt6)); first | exact h7 | exact h7.drew | exact h7.drewN _) (by have h7 := Hr6.out.below (hb67.mono (Nat.le_trans hb15.size (Nat.le_of_lt hlt6))); first | exact h7 | exact h7.drew | exact h7.drewN _) (by omega) (by omega)).mono ?_; rintro e w8 ⟨rfl, q, rfl⟩; rw [show decide (ss.take m = ss.take m) = true from decide_eq_true rfl])))
                        go_wp2_with fail
                        go_ret
                        exact ⟨rfl, by have h8 := hb15.trans ((hb56.trans (hb67.mono (Nat.le_of_lt hlt6))).mono hb15.size); exact ⟨h8.os, h8.tape, h8.output, h8.size, h8.block⟩⟩
                    · subst hmk
                      rcases hdz with ⟨ad', hA', hm0, hm1, hcellz⟩ | ⟨hm0, hE0⟩
                      · have hlt1 : m - 1 < m := by omega
                        cases hA'
                        go_wp2_with fail
                        refine (read_any _ _ (by simp; omega) n 9000 33 (by rw [str_to]; exact Hbk.out)).mono ?_
                        rintro e w5 ⟨v2, rfl, hown5, hb5⟩
                        rw [show readRest n ((⟨L.toArray⟩ : ByteArray).extract 0 kk).data.toList [] 33 = ((bodies ss).take m, 33 + E, false) from by rw [str_to]; exact Hkept.out] at hown5 ⊢
                        simp only [] at hown5 ⊢
                        rw [Hlenm.out, Hmkm.out] at hown5
                        obtain ⟨A2, c2, rfl, hc2⟩ := own_slice hown5
                        have Hs5 := Lib.hid (SlR.own hown5)
                        have Hr5 := Lib.hid (Hr2.out.below (hb5.mono hbT.size))
                        have hb15 := hbT.trans (hb5.mono hbT.size)
                        clear hown5 hb5
                        go_wp2_with fail
                        have hX := BlkIs.new w5 31 #[.int .i64 n, .int .i64 9000, .slice A2 m c2, .int .i64 (33 + (E : Int)), .bool false]
                        refine (readBad_any _ _ (by simp; omega) (by rw [str_to]; exact Hcb.out)).mono ?_
                        rintro e w6 ⟨rfl, hb6⟩
                        have HX6 := Lib.hid (hX.below hb6 (by simp))
                        have hb56 := ((Below.refl w5.heap.size w5).alloc (Nat.le_refl _) (.cells #[.int .i64 n, .int .i64 9000, .slice A2 m c2, .int .i64 (33 + (E : Int)), .bool false] 31)).trans (hb6.mono (by simp))
                        clear hX hb6
                        go_wp2_with fail
                        have hmc : (m : Int) ≤ (cap : Int) := by omega
                        have hm00 : 0 ≤ (m : Int) := by omega
                        have hs6 := Hs5.out.below hb56
                        have hr6 := Hr5.out.below (hb56.mono hb15.size)
                        have hx60 := HX6.out.cell 0
                        have hx62 := HX6.out.cell 2
                        have hx63 := HX6.out.cell 3
                        have hx64 := HX6.out.cell 4
                        simp at hx60 hx62 hx63 hx64
                        have hlt6 : w5.heap.size < w6.heap.size := HX6.out.lt
                        have Hs6 := Lib.hid hs6; have Hr6 := Lib.hid hr6
                        clear hs6 hr6
                        go_region_held3 (fun wx => wx.cell? ⟨w5.heap.size, 0, none⟩ = some (.int .i64 n) ∧ wx.cell? ⟨w5.heap.size, 2, none⟩ = some (.slice A2 m c2) ∧ wx.cell? ⟨w5.heap.size, 3, none⟩ = some (.int .i64 (33 + (E : Int))) ∧ wx.cell? ⟨w5.heap.size, 4, none⟩ = some (.bool false))
                          (first | go_keep | exact ⟨hk0, hk2, hk3, hk4⟩)
                          ((first
                            | (go_at_call 8; refine (alive10_any _).mono ?_; rintro e w7 ⟨rfl, hb7⟩; have hk : ∀ i, w7.cell? ⟨w5.heap.size, i, none⟩ = w6.cell? ⟨w5.heap.size, i, none⟩ := fun i => (hb7.cell (p := ⟨w5.heap.size, i, none⟩) (by simp; omega)).trans (World.cell?_alloc_lt w6 _ _ hlt6); have hk0 := (hk 0).trans hx60; have hk2 := (hk 2).trans hx62; have hk3 := (hk 3).trans hx63; have hk4 := (hk 4).trans hx64; have hb67 : Below w6.heap.size w6 w7 := ((Below.refl _ _).alloc (Nat.le_refl _) (.cells #[.int .i64 0, .int .i64 0, .slice none 0 0, .int .i64 0, .bool false] 31)).trans (below_undrew (hb7.mono (by simp))); clear hk)
                            | (go_at_call 13; refine (sameTexts_any w5.heap.size w.heap.size m m c2 cap A2 A (ss.take m) (ss.take m) _ (by have h7 := Hs6.out.below (hb67.mono (Nat.le_of_lt hlt6)); first | exact h7 | exact h7.drew | exact h7.drewN _) (by have h7 := Hr6.out.below (hb67.mono (Nat.le_trans hb15.size (Nat.le_of_lt hlt6))); first | exact h7 | exact h7.drew | exact h7.drewN _) (by omega) (by omega)).mono ?_; rintro e w8 ⟨rfl, q, rfl⟩; rw [show decide (ss.take m = ss.take m) = true from decide_eq_true rfl])))
                        go_wp2_with fail
                        go_ret
                        exact ⟨rfl, by have h8 := hb15.trans ((hb56.trans (hb67.mono (Nat.le_of_lt hlt6))).mono hb15.size); exact ⟨h8.os, h8.tape, h8.output, h8.size, h8.block⟩⟩
                      · subst hE0
                        go_wp2_with fail
                        refine (read_any _ _ (by simp; omega) n 9000 33 (by rw [str_to]; exact Hbk.out)).mono ?_
                        rintro e w5 ⟨v2, rfl, hown5, hb5⟩
                        rw [show readRest n ((⟨L.toArray⟩ : ByteArray).extract 0 kk).data.toList [] 33 = ((bodies ss).take m, 33 + 0, false) from by rw [str_to]; exact Hkept.out] at hown5 ⊢
                        simp only [] at hown5 ⊢
                        rw [Hlenm.out, Hmkm.out] at hown5
                        obtain ⟨A2, c2, rfl, hc2⟩ := own_slice hown5
                        have Hs5 := Lib.hid (SlR.own hown5)
                        have Hr5 := Lib.hid (Hr2.out.below (hb5.mono hbT.size))
                        have hb15 := hbT.trans (hb5.mono hbT.size)
                        clear hown5 hb5
                        go_wp2_with fail
                        have hX := BlkIs.new w5 31 #[.int .i64 n, .int .i64 9000, .slice A2 m c2, .int .i64 (33), .bool false]
                        refine (readBad_any _ _ (by simp; omega) (by rw [str_to]; exact Hcb.out)).mono ?_
                        rintro e w6 ⟨rfl, hb6⟩
                        have HX6 := Lib.hid (hX.below hb6 (by simp))
                        have hb56 := ((Below.refl w5.heap.size w5).alloc (Nat.le_refl _) (.cells #[.int .i64 n, .int .i64 9000, .slice A2 m c2, .int .i64 (33), .bool false] 31)).trans (hb6.mono (by simp))
                        clear hX hb6
                        go_wp2_with fail
                        have hmc : (m : Int) ≤ (cap : Int) := by omega
                        have hm00 : 0 ≤ (m : Int) := by omega
                        have hs6 := Hs5.out.below hb56
                        have hr6 := Hr5.out.below (hb56.mono hb15.size)
                        have hx60 := HX6.out.cell 0
                        have hx62 := HX6.out.cell 2
                        have hx63 := HX6.out.cell 3
                        have hx64 := HX6.out.cell 4
                        simp at hx60 hx62 hx63 hx64
                        have hlt6 : w5.heap.size < w6.heap.size := HX6.out.lt
                        have Hs6 := Lib.hid hs6; have Hr6 := Lib.hid hr6
                        clear hs6 hr6
                        go_region_held3 (fun wx => wx.cell? ⟨w5.heap.size, 0, none⟩ = some (.int .i64 n) ∧ wx.cell? ⟨w5.heap.size, 2, none⟩ = some (.slice A2 m c2) ∧ wx.cell? ⟨w5.heap.size, 3, none⟩ = some (.int .i64 (33)) ∧ wx.cell? ⟨w5.heap.size, 4, none⟩ = some (.bool false))
                          (first | go_keep | exact ⟨hk0, hk2, hk3, hk4⟩)
                          ((first
                            | (go_at_call 8; refine (alive10_any _).mono ?_; rintro e w7 ⟨rfl, hb7⟩; have hk : ∀ i, w7.cell? ⟨w5.heap.size, i, none⟩ = w6.cell? ⟨w5.heap.size, i, none⟩ := fun i => (hb7.cell (p := ⟨w5.heap.size, i, none⟩) (by simp; omega)).trans (World.cell?_alloc_lt w6 _ _ hlt6); have hk0 := (hk 0).trans hx60; have hk2 := (hk 2).trans hx62; have hk3 := (hk 3).trans hx63; have hk4 := (hk 4).trans hx64; have hb67 : Below w6.heap.size w6 w7 := ((Below.refl _ _).alloc (Nat.le_refl _) (.cells #[.int .i64 0, .int .i64 0, .slice none 0 0, .int .i64 0, .bool false] 31)).trans (below_undrew (hb7.mono (by simp))); clear hk)
                            | (go_at_call 13; refine (sameTexts_any w5.heap.size w.heap.size m m c2 cap A2 A (ss.take m) (ss.take m) _ (by have h7 := Hs6.out.below (hb67.mono (Nat.le_of_lt hlt6)); first | exact h7 | exact h7.drew | exact h7.drewN _) (by have h7 := Hr6.out.below (hb67.mono (Nat.le_trans hb15.size (Nat.le_of_lt hlt6))); first | exact h7 | exact h7.drew | exact h7.drewN _) (by omega) (by omega)).mono ?_; rintro e w8 ⟨rfl, q, rfl⟩; rw [show decide (ss.take m = ss.take m) = true from decide_eq_true rfl])))
                        go_wp2_with fail
                        go_ret
                        exact ⟨rfl, by have h8 := hb15.trans ((hb56.trans (hb67.mono (Nat.le_of_lt hlt6))).mono hb15.size); exact ⟨h8.os, h8.tape, h8.output, h8.size, h8.block⟩⟩
          · have n3 : (300 : Int) < (more.size : Int) := by omega
            clear t3 hr
            go_enter Try.func3, Try.ntmps3
            go_wp2_with fail
            refine Hsh.out.mono ?_
            rintro e w1 ⟨rfl, hb1⟩
            rw [Hc.out]
            go_wp2_with fail
            refine (alive10_any _).mono ?_
            rintro e w2 ⟨rfl, hb2⟩
            go_wp2_with fail
            go_ret
            exact ⟨rfl, hb1.trans (hb2.mono hb1.size)⟩
        · have n2 : cut < 0 := by omega
          clear t2 hr
          go_enter Try.func3, Try.ntmps3
          go_wp2_with fail
          refine Hsh.out.mono ?_
          rintro e w1 ⟨rfl, hb1⟩
          rw [Hc.out]
          go_wp2_with fail
          refine (alive10_any _).mono ?_
          rintro e w2 ⟨rfl, hb2⟩
          go_wp2_with fail
          go_ret
          exact ⟨rfl, hb1.trans (hb2.mono hb1.size)⟩
    · have n1 : 999999 < n := by omega
      clear t1 hr
      go_enter Try.func3, Try.ntmps3
      go_wp2_with fail
      refine (alive10_any _).mono ?_
      rintro e w1 ⟨rfl, hb1⟩
      go_wp2_with fail
      go_ret
      exact ⟨rfl, hb1⟩
  · have n0 : n < 0 := by omega
    clear t0 hr
    go_enter Try.func3, Try.ntmps3
    go_wp2_with fail
    refine (alive10_any _).mono ?_
    rintro e w1 ⟨rfl, hb1⟩
    go_wp2_with fail
    go_ret
    exact ⟨rfl, hb1⟩
end Go.Proofs.Ytolgjknpifpmbaa
