/- chapter 13: the document's Build and Open. -/
import Derived.Test.YtfkkcgdniepgoaaGreatCTableTellsRef13Lay
import Derived.Test.YtfkkcgdniepgoaaGreatCTableTellsRef13May
import Derived.Test.YtfkkcgdniepgoaaGreatJTableTells5
import Derived.Test.YtfkkcgdniepgoaaGreatCTableTellsTblOpen
import Derived.Test.YtfkkcgdniepgoaaGreatJTableTells11

namespace Go.Proofs.YtfkkcgdniepgoaaGreat
open Go.RowKit
set_option maxHeartbeats 4000000
set_option maxRecDepth 100000
set_option linter.unusedVariables false

theorem refBuild13_any (A : Option Addr) (n c B : Nat) (l : List En) (w : World) (hr : SlR w B 3 A n (enVs l)) (hB : B ≤ w.heap.size) (hn : n ≤ 1000000) :
    Calls Tryz.prog 9 #[.slice A n c] w fun x w' => x = .returned (.tuple #[.string ⟨(buildT l).1.toArray⟩, .int .i64 (buildT l).2]) ∧ Below w.heap.size w w' := by
  have hmy := refMay_any A n c B l w hr hB hn
  cases hmay : mayT l with
  | false =>
    rw [hmay] at hmy
    have Hmy := Lib.hid hmy
    have Hb := Lib.hid (buildT_no hmay)
    clear hmay hmy hr
    go_enter Tryz.func9, Tryz.ntmps9
    go_wp2_with fail
    refine Hmy.out.mono ?_
    rintro x w1 ⟨rfl, hb1⟩
    go_wp2_with fail
    go_ret2
    rw [Hb.out]
    exact ⟨rfl, hb1⟩
  | true =>
    rw [hmay] at hmy
    have Hmy := Lib.hid hmy
    have Hb := Lib.hid (buildT_yes hmay)
    have Hr := Lib.hid hr
    clear hmay hmy hr
    go_enter Tryz.func9, Tryz.ntmps9
    go_wp2_with fail
    refine Hmy.out.mono ?_
    rintro x w1 ⟨rfl, hb1⟩
    go_wp2_with fail
    refine (refLay_any A n c B l _ (Hr.out.below (hb1.mono hB)) (Nat.le_trans hB hb1.size) hn).mono ?_
    rintro x w2 ⟨rfl, hb2⟩
    go_wp2_with fail
    go_ret2
    rw [Hb.out]
    exact ⟨rfl, hb1.trans (hb2.mono hb1.size)⟩

theorem i64_wrap64 (x : Int) : IntKind.i64.wrap x = wrap64 x := IntWalk.i64_left x
/-- where the reading stands -/
structure RdR (w0 w : World) (bI g : Nat) (v : Value) (acc : List En) (b : List UInt8) : Prop where
  inn : RinIs w bI g b 0
  own : w.ownsRow w0.heap.size 56 3 v acc.length (enVs acc)
  bel : Below w0.heap.size w0 w
theorem RdR.step {w0 w w' : World} {bI g : Nat} {v : Value} {acc : List En} {b b' : List UInt8} (h : RdR w0 w bI g v acc b) (hI : RinIs w' bI g b' 0) (hg : w.grownBy w' (some g)) (hb : w0.heap.size ≤ bI) : RdR w0 w' bI g v acc b' :=
  ⟨hI, h.own.kept hg (.inr (own_ne_blk h.own h.inn.2 (by decide))), h.bel.grown hg h.bel.size (fun k hk => by injection hk with hk; rw [← hk]; exact Nat.le_trans hb h.inn.1)⟩
theorem RdR.below {w0 w w' : World} {bI g : Nat} {v : Value} {acc : List En} {b : List UInt8} (h : RdR w0 w bI g v acc b) (hb : Below w.heap.size w w') : RdR w0 w' bI g v acc b :=
  ⟨h.inn.below hb h.inn.lt, own_below h.own hb (fun q hq => (h.own.lt q hq).2), h.bel.trans (hb.mono h.bel.size)⟩
theorem RdR.far {w0 w : World} {bI g X i : Nat} {v : Value} {acc : List En} {b : List UInt8} (h : RdR w0 w bI g v acc b) (hX : w0.heap.size ≤ X) (hXg : X ≠ g) (hXv : v.ownBlock ≠ some X) (u : Value) : RdR w0 (w.setCell ⟨X, i, none⟩ u) bI g v acc b :=
  ⟨⟨h.inn.1, h.inn.2.keptBy (grown_set w X i u) (fun e => hXg e.symm)⟩, own_far h.own (a := ⟨X, i, none⟩) hXv u, h.bel.setCell (p := ⟨X, i, none⟩) hX u⟩

theorem refOpen13_any (s : ByteArray) (w : World) (hs : s.size ≤ 20000000) :
    Calls Tryz.prog 12 #[.string s] w fun x w' => ∃ u, x = .returned (.tuple #[u, .int .i64 (openT s.data.toList).2]) ∧ w'.ownsRow w.heap.size 56 3 u (openT s.data.toList).1.length (enVs (openT s.data.toList).1) ∧ Below w.heap.size w w' := by
  obtain ⟨i0, hi0, hz0, hz1, hz2⟩ := info_parts info_ren
  have hop := refOpen_any s w (by omega)
  have hsl := size_list s
  rw [refOpenT_eq]
  unfold refOpenT
  have hlen : (openL s.data.toList).1.length ≤ s.size := by
    rcases openL_parts s.data.toList with h | h | ⟨r, h, hr⟩
    · rw [h]; exact Nat.zero_le _
    · rw [h]; exact Nat.zero_le _
    · rw [h, hsl]; exact hr
  generalize hbb : s.data.toList = bb at hop hlen ⊢
  generalize openL bb = o at hop hlen ⊢
  obtain ⟨q, e⟩ := o
  dsimp only at hop hlen ⊢
  have Hop := Lib.hid hop; have Hbb := Lib.hid hbb
  clear hop hbb hsl
  by_cases h0 : e = 0
  · subst h0
    rw [if_neg (by decide)]
    by_cases h8 : q.length < 8
    · rw [if_pos h8]
      have h8' : decide ((q.length : Int) < 8) = true := by rw [decide_eq_true_iff]; omega
      go_enter Tryz.func12, Tryz.ntmps12
      go_wp2_with fail
      refine Hop.out.mono ?_
      rintro x w1 ⟨rfl, hb1⟩
      go_wp2_with fail
      go_ret2
      exact ⟨_, rfl, World.ownsRow_nil _ _ _ _, hb1⟩
    · rw [if_neg h8]
      have h8' : decide ((q.length : Int) < 8) = false := by rw [decide_eq_false_iff_not]; omega
      have h4r := str_from (ByteArray.mk q.toArray) 4
      rw [size_mk, show (ByteArray.mk q.toArray).data.toList = q from rfl] at h4r
      obtain ⟨n, hn⟩ : ∃ n, beVal ((q.drop 4).take 4) = n := ⟨_, rfl⟩
      have hn32 : n < 4294967296 := by
        rw [← hn]
        have h1 := beVal_lt ((q.drop 4).take 4)
        rw [List.length_take, List.length_drop, show min 4 (q.length - 4) = 4 from by omega] at h1
        exact h1
      obtain ⟨rest, hrest⟩ : ∃ r, q.drop 8 = r := ⟨_, rfl⟩
      have hrl : rest.length = q.length - 8 := by rw [← hrest, List.length_drop]
      have hin : inNum 4 (q.drop 4) 0 = n ∧ (inTake 4 (q.drop 4) 0).2.1 = rest ∧ (inTake 4 (q.drop 4) 0).2.2 = 0 := by
        unfold inNum
        rw [inTake_ok (by rw [List.length_drop]; omega)]
        refine ⟨hn, ?_, rfl⟩
        dsimp only
        rw [List.drop_drop]
        exact hrest
      rw [hn, hrest]
      have Hin := Lib.hid hin
      have hd4 : (q.drop 4).length ≤ 1000000000 := by rw [List.length_drop]; omega
      have hwn : IntKind.i64.wrap (n : Int) = (n : Int) := IntWalk.i64_in _ (by omega)
      rw [← hrl]
      obtain ⟨res, hres⟩ : ∃ res, (if rest.length ≠ 24 * n then ([], 6) else if (buildT (rdEns n rest 0).1).2 ≠ 0 ∨ (buildT (rdEns n rest 0).1).1 ≠ bb then ([], 6) else ((rdEns n rest 0).1, 0) : List En × Int) = res := ⟨_, rfl⟩
      rw [hres]
      have Hres := Lib.hid hres
      have hrl9 : rest.length ≤ 20000000 := by omega
      have Hrl := Lib.hid hrl
      clear hin hn hrest hres hrl
      go_enter Tryz.func12, Tryz.ntmps12
      go_wp2_with fail
      refine Hop.out.mono ?_
      rintro x w1 ⟨rfl, hb1⟩
      have hI1 := RinIs.new w1 (q.drop 4)
      have hb2 : Below w.heap.size w (w1.alloc (.cells #[.string ⟨(q.drop 4).toArray⟩, .int .i64 0] 91)) := hb1.alloc hb1.size _
      have hR1 : RdR w _ w1.heap.size w1.heap.size (.slice none 0 0) [] (q.drop 4) := ⟨hI1, World.ownsRow_nil _ _ _ _, hb2⟩
      have hnum := refInNumG w1.heap.size w1.heap.size 4 (q.drop 4) 0 _ hI1 hd4 (by omega)
      rw [Hin.out.1, Hin.out.2.1, Hin.out.2.2] at hnum
      have HR1 := Lib.hid hR1; have Hnum := Lib.hid hnum
      have hs1 := hb1.size
      clear hI1 hb1 hb2 hR1 hnum Hop
      go_wp2_with fail
      generalize w1.heap.size = g at HR1 Hnum hs1 ⊢
      refine Hnum.out.mono ?_
      rintro x w2 ⟨rfl, hi2, hg2⟩
      have hR2 := HR1.out.step hi2 hg2 hs1
      have HR2 := Lib.hid hR2
      have hc0 := hi2.2.cell 0
      simp at hc0
      have hrs : (⟨rest.toArray⟩ : ByteArray).size = rest.length := size_mk rest
      clear hi2 hg2 hR2 HR1 Hnum
      by_cases hq : rest.length = 24 * n
      · have hq' : ((rest.length : Int) != 24 * (n : Int)) = false := by rw [bne_eq_false_iff_eq]; omega
        have hn9 : n ≤ 1000000 := by omega
        go_wp2_with fail
        go_loopw [8, 9] (fun o i wr => ∃ (k : Nat) (u : Value) (acc : List En) (b : List UInt8), u = o ∧ k ≤ n ∧ i = .int .i64 (k : Int) ∧ Hid (RdR w wr g g u acc b ∧ acc.length = k ∧ b.length = 24 * (n - k) ∧ rdEns n rest 0 = (acc ++ (rdEns (n - k) b 0).1, (rdEns (n - k) b 0).2))) (fun _ i _ => n - (intOf i).toNat)
        case atStart => exact ⟨0, _, [], rest, rfl, Nat.zero_le _, rfl, Lib.hid ⟨HR2.out, rfl, by omega, by simp⟩⟩
        case round =>
          obtain ⟨k, u, acc, b, rfl, hk, rfl, HI⟩ := hrel
          by_cases hlt : k < n
          · have hlt' : (k : Int) < (n : Int) := by omega
            have hk0 : 0 ≤ (k : Int) := by omega
            have hbl : 24 ≤ b.length := by have := HI.out.2.2.1; omega
            have hbl9 : b.length ≤ 1000000000 := by have := HI.out.2.2.1; omega
            obtain ⟨j, hj⟩ : ∃ j, n - k = j + 1 := ⟨n - k - 1, by omega⟩
            have hone := rdEns_one (n := j) hbl
            have Hinv := Lib.hid HI.out.2.2.2
            have Hacc := Lib.hid HI.out.2.1
            have Hblen := Lib.hid HI.out.2.2.1
            have HR := Lib.hid HI.out.1
            have n1 := refInNumG g g 8 b 0 _ HR.out.inn hbl9 (by omega)
            unfold inNum at n1
            rw [inTake_ok (by omega)] at n1
            dsimp only at n1
            obtain ⟨z0, hz0'⟩ : ∃ z, i64L (b.take 8) = z := ⟨_, rfl⟩
            obtain ⟨z1, hz1'⟩ : ∃ z, i64L ((b.drop 8).take 8) = z := ⟨_, rfl⟩
            obtain ⟨z2, hz2'⟩ : ∃ z, i64L ((b.drop 16).take 8) = z := ⟨_, rfl⟩
            have hx0 : IntKind.i64.wrap ((beVal (b.take 8) : Nat) : Int) = z0 := by rw [i64_wrap64]; exact hz0'
            have hx1 : IntKind.i64.wrap ((beVal ((b.drop 8).take 8) : Nat) : Int) = z1 := by rw [i64_wrap64]; exact hz1'
            have hx2 : IntKind.i64.wrap ((beVal ((b.drop 16).take 8) : Nat) : Int) = z2 := by rw [i64_wrap64]; exact hz2'
            have hent : entAt b = (z0, z1, z2) := by unfold entAt; rw [hz0', hz1', hz2']
            rw [hent] at hone
            generalize hv0 : beVal (b.take 8) = v0 at n1 hx0
            generalize hv1 : beVal ((b.drop 8).take 8) = v1 at hx1
            generalize hv2 : beVal ((b.drop 16).take 8) = v2 at hx2
            have Hv1 := Lib.hid hv1; have Hv2 := Lib.hid hv2
            have N1 := Lib.hid n1
            have Hone := Lib.hid hone
            clear HI n1 hone hz0' hz1' hz2' hent hv0 hv1 hv2
            go_wp2_with fail
            refine N1.out.mono ?_
            rintro x w3 ⟨rfl, hi3, hg3⟩
            have hR3 := HR.out.step hi3 hg3 hs1
            have hgl3 := hi3.lt
            obtain ⟨x3, hx3⟩ : ∃ x3, w3.heap.size = x3 := ⟨_, rfl⟩
            obtain ⟨W3, hW3⟩ : ∃ W3, w3.alloc (.cells #[.int .i64 z0, .int .i64 0, .int .i64 0] 56) = W3 := ⟨_, rfl⟩
            have hB3 : BlkIs W3 x3 56 #[.int .i64 z0, .int .i64 0, .int .i64 0] := by rw [← hW3, ← hx3]; exact BlkIs.new _ _ _
            have hRW3 : RdR w W3 g g u acc (b.drop 8) := by rw [← hW3]; exact hR3.below ((Below.refl _ _).alloc (Nat.le_refl _) _)
            have hu3 : u.ownBlock ≠ some x3 := fun e => by have := (hR3.own.lt x3 e).2; omega
            have hx3w : w.heap.size ≤ x3 := by rw [← hx3]; exact hR3.bel.size
            have hxg : x3 ≠ g := by omega
            have n2 := refInNumG g g 8 (b.drop 8) 0 _ hRW3.inn (by rw [List.length_drop]; omega) (by omega)
            unfold inNum at n2
            rw [inTake_ok (by rw [List.length_drop]; omega)] at n2
            dsimp only at n2
            rw [Hv1.out, List.drop_drop] at n2
            have HB3 := Lib.hid hB3; have HRW3 := Lib.hid hRW3; have N2 := Lib.hid n2
            have HW3 := Lib.hid hW3; have Hx3 := Lib.hid hx3; have Hu3 := Lib.hid hu3
            clear hi3 hg3 hR3 hB3 hRW3 n2 hu3 N1 HR hW3 hx3
            go_wp2_with fail
            rw [HW3.out, Hx3.out]
            refine N2.out.mono ?_
            rintro x w4 ⟨rfl, hi4, hg4⟩
            have hR4 := HRW3.out.step hi4 hg4 hs1
            have hB4 := HB3.out.keptBy hg4 hxg
            have hf4 := hB4.free 1
            have hc41 := hB4.cell 1
            have hl4 := hB4.lt
            simp at hc41
            obtain ⟨W4, hW4⟩ : ∃ W4, w4.setCell ⟨x3, 1, none⟩ (.int .i64 z1) = W4 := ⟨_, rfl⟩
            have hB5 : BlkIs W4 x3 56 #[.int .i64 z0, .int .i64 z1, .int .i64 0] := by rw [← hW4]; exact hB4.put 1 _
            have hR5 : RdR w W4 g g u acc (b.drop 16) := by rw [← hW4]; exact hR4.far hx3w hxg Hu3.out _
            have n3 := refInNumG g g 8 (b.drop 16) 0 _ hR5.inn (by rw [List.length_drop]; omega) (by omega)
            unfold inNum at n3
            rw [inTake_ok (by rw [List.length_drop]; omega)] at n3
            dsimp only at n3
            rw [Hv2.out, List.drop_drop] at n3
            have HB5 := Lib.hid hB5; have HR5 := Lib.hid hR5; have N3 := Lib.hid n3; have HW4 := Lib.hid hW4
            clear hi4 hg4 hR4 hB4 hB5 hR5 n3 N2 HRW3 HB3 hW4
            go_wp2_with fail
            rw [HW4.out]
            refine N3.out.mono ?_
            rintro x w5 ⟨rfl, hi5, hg5⟩
            have hR6 := HR5.out.step hi5 hg5 hs1
            have hB6 := HB5.out.keptBy hg5 hxg
            have hf6 := hB6.free 2
            have hc62 := hB6.cell 2
            have hl6 := hB6.lt
            simp at hc62
            obtain ⟨W5, hW5⟩ : ∃ W5, w5.setCell ⟨x3, 2, none⟩ (.int .i64 z2) = W5 := ⟨_, rfl⟩
            have hB7 : BlkIs W5 x3 56 #[.int .i64 z0, .int .i64 z1, .int .i64 z2] := by rw [← hW5]; exact hB6.put 2 _
            have hR7 : RdR w W5 g g u acc (b.drop 24) := by rw [← hW5]; exact hR6.far hx3w hxg Hu3.out _
            have d0 := hB7.cell 0; have d1 := hB7.cell 1; have d2 := hB7.cell 2
            simp at d0 d1 d2
            have HR7 := Lib.hid hR7
            have hal : acc.length ≤ 1000000 := by have := Hacc.out; omega
            clear hi5 hg5 hR6 hB6 hB7 hR7 N3 HR5 HB5 hf4 hc41
            go_wp2_with (at_builtin; refine wpList_append_lies _ rfl (.tmp 55) (.tmp 57) _ rfl w.heap.size 56 i0 _ 3 24 Tryz.underlying24 hi0 hz0 hz1 hz2 rfl (by omega) u acc.length (enVs acc) rfl (HR7.out.own.alloc _) ⟨W5.heap.size, 0, none⟩ 1 1 [.int .i64 z0, .int .i64 z1, .int .i64 z2] rfl rfl (World.news_of_block (cs := #[.int .i64 z0, .int .i64 z1, .int .i64 z2]) (by have := heap_alloc_new W5 (.cells #[.int .i64 z0, .int .i64 z1, .int .i64 z2] 56); simpa using this)) (by simp [Value.oneCell']) (by omega) (by simp only [maxLen]; omega) (by omega) (by have := HR7.out.bel.size; simp <;> omega) (W5.heap.size + 1) (by simp) ?_; intro g9 cp w9 hown9 hgrow9 hat9 hlt9)
            have hfin : RdR w w9 g g (.slice (some ⟨g9, 0, none⟩) (acc.length + 1) cp) (acc ++ [(z0, z1, z2)]) (b.drop 24) := by
              have hRa := HR7.out.below ((Below.refl _ _).alloc (Nat.le_refl _) (.cells #[.int .i64 z0, .int .i64 z1, .int .i64 z2] 56))
              refine ⟨⟨hRa.inn.1, hRa.inn.2.grown hgrow9 (fun e => own_ne_blk hRa.own hRa.inn.2 (by decide) e.symm)⟩, ?_, hRa.bel.grown hgrow9 hRa.bel.size (fun q hq => (hRa.own.lt q hq).1)⟩
              rw [enVs_append, List.length_append]
              exact hown9
            have Hfin := Lib.hid hfin
            clear hfin hown9 hgrow9 hat9 hlt9 HR7
            go_roundw
            case rel =>
              refine ⟨k + 1, _, acc ++ [(z0, z1, z2)], b.drop 24, rfl, by omega, by go_num, Lib.hid ⟨Hfin.out, by rw [List.length_append, Hacc.out]; rfl, by rw [List.length_drop]; have := Hblen.out; omega, ?_⟩⟩
              rw [Hinv.out, hj, Hone.out, show n - (k + 1) = j from by omega]
              simp
            case measure => simp [intOf]; omega
          · obtain rfl : k = n := by omega
            have hd : decide ((k : Int) < (k : Int)) = false := by simp
            have hacc : (rdEns k rest 0).1 = acc := by rw [HI.out.2.2.2, Nat.sub_self]; simp [rdEns]
            have hR := HI.out.1
            have hal : acc.length = k := HI.out.2.1
            have hown := hR.own
            obtain ⟨A9, c9, rfl, hc9⟩ := own_slice hown
            have hbuild := refBuild13_any A9 acc.length c9 wr.heap.size acc wr (SlR.own hown) (Nat.le_refl _) (by omega)
            have hrs9 : res = if (buildT acc).2 ≠ 0 ∨ (buildT acc).1 ≠ bb then ([], 6) else (acc, 0) := by rw [← Hres.out, if_neg (by omega), hacc]
            obtain rfl : s = ⟨bb.toArray⟩ := str_mk Hbb.out
            have HR := Lib.hid hR
            clear hacc hown HI hR Hres hal
            generalize buildT acc = bt at hbuild hrs9
            obtain ⟨bl, be⟩ := bt
            dsimp only at hbuild hrs9
            have Hbuild := Lib.hid hbuild; have Hrs := Lib.hid hrs9
            clear hbuild hrs9
            by_cases hbe : be = 0
            · subst hbe
              by_cases hbl : bl = bb
              · subst hbl
                have hr0 : res = (acc, 0) := by rw [Hrs.out, if_neg (by simp)]
                go_wp2_with fail
                refine Hbuild.out.mono ?_
                rintro x w6 ⟨rfl, hb6⟩
                have HR6 := Lib.hid (HR.out.below hb6)
                clear hb6
                go_wp2_with fail
                go_ret2
                rw [hr0]
                exact ⟨_, rfl, HR6.out.own, HR6.out.bel⟩
              · have hr6 : res = ([], 6) := by rw [Hrs.out, if_pos (.inr hbl)]
                have hc1 : (bl == bb) = false := beq_eq_false_iff_ne.2 hbl
                have hc2 : (bl != bb) = true := bne_iff_ne.2 hbl
                go_wp2_with fail
                refine Hbuild.out.mono ?_
                rintro x w6 ⟨rfl, hb6⟩
                have HR6 := Lib.hid (HR.out.below hb6)
                clear hb6
                go_wp2_with fail
                go_ret2
                rw [hr6]
                exact ⟨_, rfl, World.ownsRow_nil _ _ _ _, HR6.out.bel⟩
            · have hr6 : res = ([], 6) := by rw [Hrs.out, if_pos (.inl hbe)]
              have hc2 : (be != 0) = true := bne_iff_ne.2 hbe
              go_wp2_with fail
              refine Hbuild.out.mono ?_
              rintro x w6 ⟨rfl, hb6⟩
              have HR6 := Lib.hid (HR.out.below hb6)
              clear hb6
              go_wp2_with fail
              go_ret2
              rw [hr6]
              exact ⟨_, rfl, World.ownsRow_nil _ _ _ _, HR6.out.bel⟩
      · have hq' : ((rest.length : Int) != 24 * (n : Int)) = true := by rw [bne_iff_ne]; omega
        have hr6 : res = ([], 6) := by rw [← Hres.out, if_pos hq]
        go_wp2_with fail
        go_ret2
        rw [hr6]
        exact ⟨_, rfl, World.ownsRow_nil _ _ _ _, HR2.out.bel⟩
  · rw [if_pos h0]
    have h0' : (e != 0) = true := bne_iff_ne.2 h0
    go_enter Tryz.func12, Tryz.ntmps12
    go_wp2_with fail
    refine Hop.out.mono ?_
    rintro x w1 ⟨rfl, hb1⟩
    go_wp2_with fail
    go_ret2
    exact ⟨_, rfl, World.ownsRow_nil _ _ _ _, hb1⟩
end Go.Proofs.YtfkkcgdniepgoaaGreat
