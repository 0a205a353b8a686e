/- chapter 8: FrameJoin, walked. -/
import Derived.Test.YtfkdkhcpmoohiaaLaw8
namespace Go.Proofs.Ytfkdkhcpmoohiaa
open Go.RowKit
set_option maxHeartbeats 400000
set_option maxRecDepth 100000
set_option linter.unusedVariables false

theorem frameJoin_any (A : Option Addr) (n cap : Nat) (ss : List ByteArray) (more : ByteArray) (w : World) (hl : ss.length = n) (hr : SlR w w.heap.size 1 A n (strVs ss))
    (hs : ∀ s ∈ ss, s.size ≤ 9223372036854775807) (hnc : n ≤ cap) (hcm : cap ≤ 9223372036854775807) (hmo : more.size ≤ 9223372036854775807) :
    Calls Try.prog 6 #[.slice A n cap, .string more] w fun e w' => e = .returned (.bool true) ∧ Below w.heap.size w w' := by
  have hsh := short_any 20 3000 n cap w.heap.size A ss w hr (Nat.le_refl _) (by omega) hs (by omega) (by omega)
  have Hsh := Lib.hid hsh; clear hsh
  cases hc : shortB 20 3000 ss with
  | false =>
    have Hc := Lib.hid hc; clear hc hr
    go_enter Try.func6, Try.ntmps6
    go_wp2_with fail
    refine Hsh.out.mono ?_
    rintro e w1 ⟨rfl, hb1⟩
    rw [Hc.out]
    go_wp2_with fail
    refine (alive8_any _).mono ?_
    rintro e w2 ⟨rfl, hb2⟩
    go_wp2_with fail
    go_ret
    exact ⟨rfl, hb1.trans (hb2.mono hb1.size)⟩
  | true =>
    have hfew : n ≤ 20 ∧ bytesOf ss ≤ 3000 := by unfold shortB at hc; rw [decide_eq_true_iff] at hc; omega
    by_cases hm : more.size ≤ 1000
    · obtain ⟨hf1, hf2⟩ := hfew
      obtain ⟨i0, hi0, hz0, hz1, hz2⟩ := info_parts info_str8
      have hall : ∀ k, (layAll (bodies (ss.take k))).length ≤ 3240 := fun k => layAll_take_le ss k 20 3000 (by omega) hf2
      have hsz : ∀ s ∈ ss, s.size ≤ 3000 := fun s h => Nat.le_trans (size_le_bytesOf ss s h) hf2
      have Hc := Lib.hid hc; have Hr := Lib.hid hr; have Hl := Lib.hid hl; have Hall := Lib.hid hall; have Hsz := Lib.hid hsz
      clear hc hr hl hall hsz hs
      go_enter Try.func6, Try.ntmps6
      go_wp2_with fail
      refine Hsh.out.mono ?_
      rintro e w1 ⟨rfl, hb1⟩
      rw [Hc.out]
      go_wp2_with fail
      go_loopw [5, 6] (fun t i wr => ∃ k : Nat, k ≤ n ∧ i = .int .i64 k ∧ t = .string ⟨(layAll (bodies (ss.take k))).toArray⟩ ∧ Below w.heap.size w wr) (fun _ i _ => n - (intOf i).toNat)
      case atStart => exact ⟨0, Nat.zero_le _, rfl, rfl, hb1⟩
      case round =>
        obtain ⟨k, hk, rfl, rfl, hb⟩ := hrel
        have hkl := Hall.out k
        by_cases hlt : k < n
        · obtain ⟨ad, u, hA, had, hu, hcell⟩ := (Hr.out.below hb).get hlt
          subst hA
          obtain ⟨s, hs1, rfl⟩ := strVs_get hu
          have hs3 := Hsz.out s (List.mem_of_getElem? hs1)
          have hst := bodies_take ss k s hs1
          have hfl : (frameL s.data.toList).length = s.size + 12 := by rw [frameL_length, ← size_list]
          have hpl := putL_ok (b := s.data.toList) (by rw [← size_list]; omega)
          have hsn := layAll_snoc (bodies (ss.take k)) s.data.toList
          rw [← hst] at hsn
          generalize frameL s.data.toList = F at hfl hpl hsn
          have hne : ((F.length : Int) != (s.size : Int) + 12) = false := by rw [hfl]; simp
          have hF : F.length ≤ 3012 := by omega
          have Hpl := Lib.hid hpl; have Hsn := Lib.hid hsn
          clear hu hs1 hst hfl hpl hsn
          have hlt0 := Lib.hid had; clear had
          go_wp2_with fail
          refine (fput_any s _ (by omega)).mono ?_
          rintro e w2 ⟨rfl, hb2⟩
          rw [Hpl.out]
          have hcell2 : w2.cell? (ad.add k) = some (.string s) := (hb2.cell (p := ad.add k) (by rw [add_block]; exact Nat.lt_of_lt_of_le hlt0.out hb.size)).trans hcell
          clear hcell
          go_wp2_with fail
          all_goals first
            | (exfalso; omega)
            | (go_roundw
               case rel => exact ⟨k + 1, by omega, by go_num, by rw [Hsn.out, str_append], hb.trans (hb2.mono hb.size)⟩
               case measure => simp [intOf]; omega)
        · obtain rfl : k = n := by omega
          have hbt : bodies (ss.take k) = bodies ss := by rw [List.take_of_length_le (by rw [Hl.out]; omega)]
          rw [hbt] at hkl ⊢
          have hjoin := framesL_join (bodies ss) more.data.toList (by
            intro b hb
            obtain ⟨s, hs, rfl⟩ := List.mem_map.1 hb
            have := Hsz.out s hs
            rw [← size_list]; omega)
          have hlen2 : (layAll (bodies ss) ++ more.data.toList).length ≤ 10000 := by rw [List.length_append, ← size_list]; omega
          have hfX : (framesL (layAll (bodies ss) ++ more.data.toList)).1.length ≤ 10000 := Nat.le_trans (framesL_few _) hlen2
          have hfY : (framesL more.data.toList).1.length ≤ 10000 := Nat.le_trans (framesL_few _) (by rw [← size_list]; omega)
          have hmk : ((framesL (layAll (bodies ss) ++ more.data.toList)).1.map mkS) = ss ++ (framesL more.data.toList).1.map mkS := by
            rw [hjoin]
            simp only [List.map_append]
            congr 1
            unfold bodies
            rw [List.map_map]
            have : (mkS ∘ fun x : ByteArray => x.data.toList) = id := by funext s; exact str_ext (by simp [mkS])
            rw [this, List.map_id]
          have hcnt : (framesL (layAll (bodies ss) ++ more.data.toList)).2 = (layAll (bodies ss)).length + (framesL more.data.toList).2 := by rw [hjoin]
          clear hjoin hbt
          generalize hL : layAll (bodies ss) = L at hkl hlen2 hfX hmk hcnt ⊢
          have HL := Lib.hid hL; clear hL
          obtain ⟨X, hX⟩ : ∃ X, framesL (L ++ more.data.toList) = X := ⟨_, rfl⟩
          obtain ⟨Y, hY⟩ : ∃ Y, framesL more.data.toList = Y := ⟨_, rfl⟩
          rw [hX] at hmk hcnt hfX
          rw [hY] at hmk hcnt hfY
          have HX := Lib.hid hX; have HY := Lib.hid hY; have Hmk := Lib.hid hmk
          have hc2 : ((X.2 : Int) == ((L.length : Int) + (Y.2 : Int))) = true := by rw [hcnt]; simp
          have hY2 : Y.2 ≤ 100000 := by rw [← hY]; exact Nat.le_trans (framesL_at _) (by rw [← size_list]; omega)
          clear hX hY hmk hcnt hlen2
          go_wp2_with fail
          refine (all_any _ _ (by rw [ByteArray.size_append, size_mk]; omega)).mono ?_
          rintro e w2 ⟨v2, rfl, hown2, hb2⟩
          rw [show framesL (⟨L.toArray⟩ ++ more : ByteArray).data.toList = X from by rw [show (⟨L.toArray⟩ ++ more : ByteArray).data.toList = L ++ more.data.toList from by simp]; exact HX.out] at hown2 ⊢
          have Hown2 := Lib.hid hown2; clear hown2
          go_wp2_with fail
          refine (all_any more _ (by omega)).mono ?_
          rintro e w3 ⟨v3, rfl, hown3, hb3⟩
          rw [HY.out] at hown3 ⊢
          obtain ⟨A3, c3, rfl, hc3⟩ := own_slice hown3
          have Hown3 := Lib.hid hown3; clear hown3
          go_wp2_with fail
          refine (alive8_any _).mono ?_
          rintro e w4 ⟨rfl, hb4⟩
          have hb24 := hb3.trans (hb4.mono hb3.size)
          have hown24 := own_below Hown2.out hb24 (fun q hq => (Hown2.out.lt q hq).2)
          obtain ⟨A2, c2, rfl, hc2x⟩ := own_slice hown24
          have hown34 := own_below Hown3.out hb4 (fun q hq => (Hown3.out.lt q hq).2)
          have hbz := hb.trans ((hb2.trans (hb24.mono hb2.size)).mono hb.size)
          have hrr := Hr.out.below hbz
          clear Hown2 Hown3 hb2 hb3 hb4 hb24
          have hs3 := SlR.own hown34
          have hs2 := SlR.own hown24
          have Hs2 := Lib.hid hs2; have Hs3 := Lib.hid hs3; have Hrr := Lib.hid hrr
          clear hs2 hs3 hrr hown34 hown24
          go_wp2_with (first
            | (at_builtin; refine wpList_append_sl _ rfl (.const (.slice none 0 0)) (.tmp 71) _ rfl w4.heap.size 9 i0 _ 1 16 Try.underlying30 hi0 hz0 hz1 hz2 rfl (by omega) (.slice none 0 0) 0 [] rfl (World.ownsRow_nil _ _ _ _) w.heap.size A k cap (strVs ss) rfl Hrr.out strVs_one (by simp only [maxLen]; omega) (by omega) (Nat.le_refl _) ?_; intro v5 w5 hown5 hg5 hat5; have hb5 : Below w4.heap.size w4 w5 := (Below.refl _ _).grown hg5 (Nat.le_refl _) (by simp [Value.ownBlock]); have Hown5 := Lib.hid hown5; clear hown5)
            | (at_builtin; refine wpList_append_sl _ rfl (.tmp 72) (.tmp 73) _ rfl w4.heap.size 9 i0 _ 1 16 Try.underlying30 hi0 hz0 hz1 hz2 rfl (by omega) v5 (0 + k) ([] ++ strVs ss) rfl Hown5.out w4.heap.size A3 Y.1.length c3 (strVs (Y.1.map mkS)) rfl (Hs3.out.below hb5) strVs_one (by simp only [maxLen]; omega) (by omega) hb5.size ?_; intro v6 w6 hown6 hg6 hat6; have hb6 : Below w4.heap.size w4 w6 := hb5.grown hg6 hb5.size (fun q hq => (Hown5.out.lt q hq).1); obtain ⟨A6, c6, hv6, hc6⟩ := own_slice hown6; subst hv6; have Hown6 := Lib.hid hown6; clear hown6))
          refine (sameTexts_any _ w6.heap.size _ _ _ _ _ _ (X.1.map mkS) (ss ++ Y.1.map mkS) _ (Hs2.out.below hb6) (by rw [strVs, List.map_append]; simpa [strVs] using SlR.own Hown6.out) (by omega) (by omega)).mono ?_
          rintro e w7 ⟨rfl, q, rfl⟩
          rw [show decide (X.1.map mkS = ss ++ Y.1.map mkS) = true from by simpa using Hmk.out]
          go_wp2_with fail
          go_ret
          exact ⟨rfl, below_drewN (hbz.trans (hb6.mono hbz.size)) q⟩
    · have hm' : (1000 : Int) < (more.size : Int) := by omega
      have Hc := Lib.hid hc; clear hc hr
      go_enter Try.func6, Try.ntmps6
      go_wp2_with fail
      refine Hsh.out.mono ?_
      rintro e w1 ⟨rfl, hb1⟩
      rw [Hc.out]
      go_wp2_with fail
      refine (alive8_any _).mono ?_
      rintro e w2 ⟨rfl, hb2⟩
      go_wp2_with fail
      go_ret
      exact ⟨rfl, hb1.trans (hb2.mono hb1.size)⟩
end Go.Proofs.Ytfkdkhcpmoohiaa
