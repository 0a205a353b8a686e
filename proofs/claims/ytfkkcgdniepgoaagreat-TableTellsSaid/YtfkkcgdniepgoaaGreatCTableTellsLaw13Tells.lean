/- chapter 13: TableTells, walked (printed by mktells13b.py). -/
import Derived.Test.YtfkkcgdniepgoaaGreatJTableTells8
import Derived.Test.YtfkkcgdniepgoaaGreatCTableTellsTblLast
import Derived.Test.YtfkkcgdniepgoaaGreatCTableTellsRef13Open
import Derived.Test.YtfkkcgdniepgoaaGreatCTableTellsRef13Mids
import Derived.Test.YtfkkcgdniepgoaaGreatJTableTells9
import Derived.Test.YtfkkcgdniepgoaaGreatCTableTellsPlain12
import Derived.Test.YtfkkcgdniepgoaaGreatJTableTells13
import Derived.Test.YtfkkcgdniepgoaaGreatJTableTells18

namespace Go.Proofs.YtfkkcgdniepgoaaGreat
open Go.RowKit
set_option maxHeartbeats 8000000
set_option maxRecDepth 100000
set_option linter.unusedVariables false

theorem run_neq_en (w : World) (x y z u v t : Int) : (binOp .neq 53 (.agg #[.int .i64 x, .int .i64 y, .int .i64 z]) (.agg #[.int .i64 u, .int .i64 v, .int .i64 t])).run Tryz.prog w = .ok (.bool (!((x == u) && ((y == v) && (z == t))))) w := by
  go_simp
  split
  · split
    · split <;> simp_all
    · simp_all
  · simp_all

theorem mayT_pos {l : List En} (h : mayT l = true) : ∀ x ∈ l, 0 ≤ x.2.2 := fun x hx => by
  unfold mayT at h
  rw [Bool.and_eq_true] at h
  have := List.all_eq_true.1 h.1 x hx
  unfold rightE at this
  rw [decide_eq_true_iff] at this
  omega
theorem mayT_sorted {l : List En} (h : mayT l = true) : SortedE l := by
  unfold mayT at h
  rw [Bool.and_eq_true] at h
  exact of_decide_eq_true h.2
theorem TblIs.spare {w w' : World} {g base T : Nat} {t : TypeId} {l : List En} (h : TblIs w base T l) (hs : Spares w w' g t) (h1 : 87 ≠ t) (h2 : 53 ≠ t) : TblIs w' base T l := by
  obtain ⟨v, k1, k2, k3⟩ := h
  exact ⟨v, hs.blk _ _ _ h1 (by decide) k1, k2, hs.own _ _ _ _ _ _ h2 (by decide) k3⟩

theorem tableTells_any (A1 : Option Addr) (n1 c1 : Nat) (l : List En) (s : ByteArray) (hash from_ to_ : Int) (W : World) (h1 : SlR W W.heap.size 3 A1 n1 (enVs l)) (hm1 : n1 ≤ 9223372036854775807) (hnc : n1 ≤ c1) (hs : s.size ≤ 9223372036854775807) :
    Calls Tryz.prog 3 #[.slice A1 n1 c1, .string s, .int .i64 hash, .int .i64 from_, .int .i64 to_] W fun e w' => e = .returned (.bool true) ∧ Below W.heap.size W w' := by
  by_cases q1 : 60 < n1
  · have q1' : decide ((60 : Int) < (n1 : Int)) = true := by rw [decide_eq_true_iff]; omega
    clear h1
    go_enter Tryz.func3, Tryz.ntmps3
    go_wp2_with fail
    refine (alive13_any _).mono ?_
    rintro e w1 ⟨rfl, hb1⟩
    go_wp2_with fail
    go_ret
    exact ⟨rfl, hb1⟩
  by_cases q2 : 3000 < s.size
  · have q1' : decide ((60 : Int) < (n1 : Int)) = false := by rw [decide_eq_false_iff_not]; omega
    have q2' : decide ((3000 : Int) < (s.size : Int)) = true := by rw [decide_eq_true_iff]; omega
    clear h1
    go_enter Tryz.func3, Tryz.ntmps3
    go_wp2_with fail
    refine (alive13_any _).mono ?_
    rintro e w1 ⟨rfl, hb1⟩
    go_wp2_with fail
    go_ret
    exact ⟨rfl, hb1⟩
  have q1' : decide ((60 : Int) < (n1 : Int)) = false := by rw [decide_eq_false_iff_not]; omega
  have q2' : decide ((3000 : Int) < (s.size : Int)) = false := by rw [decide_eq_false_iff_not]; omega
  have hl : l.length = n1 := by have := h1.len; rw [enVs_length] at this; omega
  subst hl
  have hs3 : s.size ≤ 3000 := by omega
  have hn60 : l.length ≤ 60 := by omega
  have hpl := plain12_any A1 l.length c1 W.heap.size l W h1 (Nat.le_refl _) (by omega)
  have H1 := Lib.hid h1; have Hpl := Lib.hid hpl
  clear h1 hpl q1 q2
  go_enter Tryz.func3, Tryz.ntmps3
  go_wp2_with fail
  refine Hpl.out.mono ?_
  rintro x w1 ⟨u1, rfl, hp1, hb1⟩
  have Hp1 := Lib.hid hp1; have Hb1 := Lib.hid hb1
  have hlent := lentEntries_any W.heap.size l.length c1 A1 l w1 (H1.out.below hb1) hb1.size (by omega) hnc
  have Hlent := Lib.hid hlent
  clear hp1 hb1 hlent Hpl
  go_wp2_with fail
  refine Hlent.out.mono ?_
  rintro x w2 ⟨gm, cm, rfl, hcm, hm2, hb2⟩
  have Hm2 := Lib.hid hm2
  have Hp2 := Lib.hid (own_below Hp1.out hb2 (fun q hq => (Hp1.out.lt q hq).2))
  have Hb2 := Lib.hid (Hb1.out.trans (hb2.mono Hb1.out.size))
  have hbuild := build_any (some ⟨gm, 0, none⟩) l.length cm w2.heap.size l w2 (lentE_sl hm2).1 (Nat.le_refl _) (by omega)
  have Hbuild := Lib.hid hbuild
  clear hm2 hb2 hbuild Hlent Hp1 Hb1
  go_wp2_with fail
  refine Hbuild.out.mono ?_
  rintro x w3 ⟨rfl, hb3⟩
  have Hm3 := Lib.hid (own_below Hm2.out hb3 (fun q hq => (Hm2.out.lt q hq).2))
  have Hp3 := Lib.hid (own_below Hp2.out hb3 (fun q hq => (Hp2.out.lt q hq).2))
  have Hb3 := Lib.hid (Hb2.out.trans (hb3.mono Hb2.out.size))
  obtain ⟨PA, Pc, rfl, hPc⟩ := own_slice Hp3.out
  have hrb := refBuild13_any PA l.length Pc w3.heap.size l w3 (SlR.own Hp3.out) (Nat.le_refl _) (by omega)
  have Hrb := Lib.hid hrb
  clear hb3 hrb Hbuild Hm2 Hp2 Hb2
  go_wp2_with fail
  refine Hrb.out.mono ?_
  rintro x w4 ⟨rfl, hb4⟩
  have Hm4 := Lib.hid (own_below Hm3.out hb4 (fun q hq => (Hm3.out.lt q hq).2))
  have Hp4 := Lib.hid (own_below Hp3.out hb4 (fun q hq => (Hp3.out.lt q hq).2))
  have Hb4 := Lib.hid (Hb3.out.trans (hb4.mono Hb3.out.size))
  have hst := staysEntries_any W.heap.size l.length cm c1 gm A1 l _ w4 Hm4.out (H1.out.below Hb4.out) (by omega)
  have Hst := Lib.hid hst
  have Hbt := Lib.hid (fun (h : (buildT l).2 = 0) => buildT_ok h)
  clear hb4 hst Hrb Hm3 Hp3 Hb3
  have hbl : (buildT l).1.length ≤ 12 + 24 * l.length := by
    unfold buildT
    split
    · rw [sealT_length]; exact Nat.le_refl _
    · exact Nat.zero_le _
  have Hbx : Hid (∀ h : (buildT l).2 = 0, openT (buildT l).1 = (l, 0)) := Lib.hid (fun h => by
    obtain ⟨h1, h2⟩ := buildT_ok h
    rw [h2]
    exact openT_build l h1 (by omega))
  generalize buildT l = bt at hbl Hbt Hbx
  obtain ⟨b1, e1⟩ := bt
  dsimp only at hbl Hbt Hbx
  have hee : (e1 != e1) = false := by simp
  go_wp2_with fail
  refine Hst.out.mono ?_
  rintro x w5' ⟨rfl, k5, rfl⟩
  have hp5 : (w4.drewN k5).ownsRow W.heap.size 56 3 (.slice PA l.length Pc) l.length (enVs l) := Hp4.out
  have hb5 : Below W.heap.size W (w4.drewN k5) := below_drewN Hb4.out k5
  generalize w4.drewN k5 = w5 at hp5 hb5 ⊢
  have Hp5 := Lib.hid hp5; have Hb5 := Lib.hid hb5
  clear hp5 hb5 Hst Hm4 Hp4 Hb4 hee
  go_wp2_with fail
  have HBk0 := Lib.hid (BookAt.new (Below.refl w5.heap.size w5) (Nat.le_refl _) (w5.alloc (.cells (bookIE (.slice none 0 0) (.slice none 0 0) (.slice none 0 0) (.slice none 0 0)) 40)).heap.size (fun _ => False))
  unfold bookIE at HBk0
  obtain ⟨w6, hw6⟩ : ∃ w6, w5.alloc (.cells #[.slice none 0 0, .slice none 0 0, .slice none 0 0, .slice none 0 0, .slice none 0 0, .slice none 0 0, .slice none 0 0, .slice none 0 0, .slice none 0 0, .slice none 0 0, .slice none 0 0, .slice none 0 0] 40) = w6 := ⟨_, rfl⟩
  rw [hw6] at HBk0 ⊢
  obtain ⟨G, hG⟩ : ∃ G, w5.heap.size = G := ⟨_, rfl⟩
  rw [hG] at HBk0 ⊢
  have HG := Lib.hid hG
  clear hw6 hG
  go_loopw [18] (fun i wr => ∃ k : Nat, k ≤ 2 ∧ i = .int .i64 (k : Int) ∧ Hid (BookAt w5 wr G G (G + 1) k (3 * k) wr.heap.size (fun _ => False))) (fun i _ => 2 - (intOf i).toNat)
  case atStart => exact ⟨0, Nat.zero_le _, rfl, HBk0⟩
  case round =>
    obtain ⟨k, hk, rfl, HBk⟩ := hrel
    by_cases hlt : k < 2
    · have hlt' : (k : Int) < 2 := by omega
      have hlt2 : decide ((k : Int) < 2) = true := decide_eq_true hlt'
      have hop := tblOpen_any s wr (by omega)
      obtain ⟨ot, hot⟩ : ∃ ot, openT s.data.toList = ot := ⟨_, rfl⟩
      have hrop := fun w => refOpen13_any s w (by omega)
      have hoto := @openT_ok s.data.toList
      rw [hot] at hop hoto
      simp only [hot] at hrop
      have Hop := Lib.hid hop; have Hrop := Lib.hid hrop; have Hoto := Lib.hid hoto
      have Hsl := Lib.hid (size_list s)
      obtain ⟨L0, x0⟩ := ot
      dsimp only at Hop Hrop Hoto
      clear hop hrop hoto hot
      go_wp2_with fail
      refine Hop.out.mono ?_
      rintro x w7 ⟨p, rfl, hpn, hpy, hb7⟩
      have Hpn := Lib.hid hpn; have Hpy := Lib.hid hpy
      have HBk7 := Lib.hid (HBk.out.under hb7)
      have hsz7 := hb7.size
      clear hpn hpy hb7 Hop
      go_wp2_with fail
      refine (Hrop.out _).mono ?_
      rintro x w8 ⟨ur, rfl, hur, hb8⟩
      have HBk8 := Lib.hid (HBk7.out.under hb8)
      have Hur := Lib.hid hur
      have Hpy8 : Hid (x0 = 0 → ∃ g, p = some ⟨g, 0, none⟩ ∧ TblIs w8 wr.heap.size g L0) := Lib.hid (fun h => by obtain ⟨g, h1, h2⟩ := Hpy.out h; exact ⟨g, h1, h2.below hb8 (Nat.le_refl _)⟩)
      have hsz8 := hb8.size
      have HG8 : Hid (G < w8.heap.size) := Lib.hid HBk8.out.lt
      clear hur hb8 Hrop Hpy HBk7
      have Hx0L : Hid (x0 = 0 → mayT L0 = true ∧ L0.length ≤ 200) := Lib.hid (fun h => by
        have h2 := Hoto.out h
        have h3 : mayT L0 = true := (buildT_ok (by rw [h2])).1
        refine ⟨h3, ?_⟩
        rw [buildT_yes h3] at h2
        have h4 := congrArg (fun z => z.1.length) h2
        dsimp only at h4
        rw [sealT_length, ← Hsl.out] at h4
        omega)
      clear Hoto
      have hxx : (x0 != x0) = false := by simp
      by_cases hk1 : k = 1 ∧ e1 = 0
      · obtain ⟨hk1, he1⟩ := hk1
        subst hk1 he1
        have hop2 := tblOpen_any ⟨b1.toArray⟩ w8 (by rw [size_mk]; omega)
        rw [show openT (ByteArray.mk b1.toArray).data.toList = (l, 0) from Hbx.out rfl] at hop2
        dsimp only at hop2
        have Hop2 := Lib.hid hop2
        have Hmay := Lib.hid (Hbt.out rfl).1
        clear hop2
        go_wp2_with fail
        refine Hop2.out.mono ?_
        rintro x w9 ⟨p9, rfl, _, hpy9, hb9⟩
        obtain ⟨gt, rfl, hT⟩ := hpy9 trivial
        have HT := Lib.hid hT
        have HBk9 := Lib.hid (HBk8.out.under hb9)
        have hP9 := own_below Hp5.out (HBk9.out.bel.mono (Nat.le_of_eq HG.out)) (fun q hq => (Hp5.out.lt q hq).2)
        have HR := Lib.hid hP9
        have hLlen : l.length ≤ 200 := by omega
        have hsz9 := hb9.size
        have hbase9 : G + 1 ≤ w9.heap.size := HBk9.out.size
        have Hso := Lib.hid (mayT_sorted Hmay.out)
        have Hpos := Lib.hid (mayT_pos Hmay.out)
        have HBkO : Hid (BookAt w5 w9 G G (G + 1) 1 (3 * 1) w9.heap.size (fun _ => False)) := Lib.hid (HBk9.out.far (by omega))
        clear hT hpy9 hb9 Hop2 hP9 HBk9 HBk8
        go_wp2_with fail
        refine (tblAll_any _ gt l _ HT.out (by omega)).mono ?_
        rintro x v1 ⟨ua, rfl, ha, ha1⟩
        have Ha := Lib.hid ha
        have HT1 := Lib.hid (HT.out.below ha1 (Nat.le_refl _))
        have HZ1 := Lib.hid ha1
        clear ha ha1
        go_wp2_with fail
        refine (tblRange_any _ gt l hash from_ to_ _ HT1.out (by omega) Hso.out Hpos.out).mono ?_
        rintro x v2 ⟨uc, rfl, hc, ha2⟩
        have Hc := Lib.hid hc
        have HT2 := Lib.hid (HT1.out.below ha2 (Nat.le_refl _))
        have HZ2 := Lib.hid ha2
        clear hc ha2
        go_wp2_with fail
        refine (tblFind_any _ gt l hash from_ _ HT2.out (by omega) Hso.out Hpos.out).mono ?_
        rintro x v3 ⟨ud, rfl, hd, ha3⟩
        have Hd := Lib.hid hd
        have HT3 := Lib.hid (HT2.out.below ha3 (Nat.le_refl _))
        have HZ3 := Lib.hid ha3
        clear hd ha3
        go_wp2_with fail
        refine (tblMids_any _ gt l _ HT3.out (by omega)).mono ?_
        rintro x v4 ⟨ui, rfl, hi, ha4⟩
        have Hi := Lib.hid hi
        have HT4 := Lib.hid (HT3.out.below ha4 (Nat.le_refl _))
        have HZ4 := Lib.hid ha4
        clear hi ha4
        have z1 := HZ1.out.size; have z2 := HZ2.out.size; have z3 := HZ3.out.size; have z4 := HZ4.out.size
        have hrl := range_le l hash from_ to_
        have hfl := find_le l hash from_
        have hmlen := mids_length_le l
        have ua1 : ∀ b, ua.ownBlock = some b → b < v1.heap.size := fun b hb => (Ha.out.lt b hb).2
        have uc1 : ∀ b, uc.ownBlock = some b → b < v2.heap.size := fun b hb => (Hc.out.lt b hb).2
        have ud1 : ∀ b, ud.ownBlock = some b → b < v3.heap.size := fun b hb => (Hd.out.lt b hb).2
        have ui1 : ∀ b, ui.ownBlock = some b → b < v4.heap.size := fun b hb => (Hi.out.lt b hb).2
        have HZ14 := Lib.hid (HZ2.out.trans ((HZ3.out.trans (HZ4.out.mono z3)).mono z2))
        have HZ24 := Lib.hid (HZ3.out.trans (HZ4.out.mono z3))
        have HZ04 := Lib.hid (HZ1.out.trans (HZ14.out.mono z1))
        have Ha4 := Lib.hid (own_below Ha.out HZ14.out (fun q hq => ua1 q hq))
        have Hc4 := Lib.hid (own_below Hc.out HZ24.out (fun q hq => uc1 q hq))
        have Hd4 := Lib.hid (own_below Hd.out HZ4.out (fun q hq => ud1 q hq))
        have HR4 := Lib.hid (own_below HR.out HZ04.out (fun q hq => (HR.out.lt q hq).2))
        have HB4 := Lib.hid (HBkO.out.under HZ04.out)
        have Hua1 := Lib.hid ua1; have Huc1 := Lib.hid uc1; have Hud1 := Lib.hid ud1; have Hui1 := Lib.hid ui1
        clear ua1 uc1 ud1 ui1 HT1 HT2 HT3 HT HR Ha Hc Hd HBkO
        obtain ⟨RL, hRL⟩ : ∃ q, rangeE l hash from_ to_ = q := ⟨_, rfl⟩
        obtain ⟨FL, hFL⟩ : ∃ q, findE l hash from_ = q := ⟨_, rfl⟩
        obtain ⟨ML, hML⟩ : ∃ q, midsE l = q := ⟨_, rfl⟩
        rw [hRL] at Hc4 hrl
        rw [hFL] at Hd4 hfl
        rw [hML] at Hi hmlen
        have HRL := Lib.hid hRL; have HFL := Lib.hid hFL; have HML := Lib.hid hML
        clear hRL hFL hML
        go_wp2_with fail
        refine (bookE_add w5 _ G G (G + 1) _ _ w9.heap.size v1.heap.size l.length _ ua l HB4.out (fun _ h => h.elim) Ha4.out Hua1.out (by omega) (by omega) (by omega) hbase9 z1).mono ?_
        rintro x v5 ⟨rfl, hB5, hsp⟩
        have HT5 := Lib.hid (HT4.out.spare hsp (by decide) (by decide))
        have Ha5 := Lib.hid (hsp.own _ _ _ _ _ _ (by decide) (by decide) Ha4.out)
        have Hc5 := Lib.hid (hsp.own _ _ _ _ _ _ (by decide) (by decide) Hc4.out)
        have Hd5 := Lib.hid (hsp.own _ _ _ _ _ _ (by decide) (by decide) Hd4.out)
        have Hi5 := Lib.hid (hsp.own _ _ _ _ _ _ (by decide) (by decide) Hi.out)
        have HR5 := Lib.hid (hsp.own _ _ _ _ _ _ (by decide) (by decide) HR4.out)
        have HB5 := Lib.hid hB5
        have y5 := hsp.bel.size
        clear hB5 hsp HT4 Ha4 Hc4 Hd4 Hi HR4 HB4
        go_wp2_with fail
        refine (bookE_add w5 _ G G (G + 1) _ _ v1.heap.size v2.heap.size RL.length _ uc RL HB5.out (fun _ h => h.elim) Hc5.out Huc1.out (by omega) (by omega) (by omega) (by omega) z2).mono ?_
        rintro x v6 ⟨rfl, hB6, hsp⟩
        have HT6 := Lib.hid (HT5.out.spare hsp (by decide) (by decide))
        have Ha6 := Lib.hid (hsp.own _ _ _ _ _ _ (by decide) (by decide) Ha5.out)
        have Hc6 := Lib.hid (hsp.own _ _ _ _ _ _ (by decide) (by decide) Hc5.out)
        have Hd6 := Lib.hid (hsp.own _ _ _ _ _ _ (by decide) (by decide) Hd5.out)
        have Hi6 := Lib.hid (hsp.own _ _ _ _ _ _ (by decide) (by decide) Hi5.out)
        have HR6 := Lib.hid (hsp.own _ _ _ _ _ _ (by decide) (by decide) HR5.out)
        have HB6 := Lib.hid hB6
        have y6 := hsp.bel.size
        clear hB6 hsp HT5 Ha5 Hc5 Hd5 Hi5 HR5 HB5
        go_wp2_with fail
        refine (bookI_add w5 _ G G (G + 1) _ _ v2.heap.size v3.heap.size FL.length _ ud FL HB6.out Hd6.out Hud1.out (by omega) (by omega) (by omega) z3).mono ?_
        rintro x v7 ⟨rfl, hB7, hsp⟩
        have HT7 := Lib.hid (HT6.out.spare hsp (by decide) (by decide))
        have Ha7 := Lib.hid (hsp.own _ _ _ _ _ _ (by decide) (by decide) Ha6.out)
        have Hc7 := Lib.hid (hsp.own _ _ _ _ _ _ (by decide) (by decide) Hc6.out)
        have Hd7 := Lib.hid (hsp.own _ _ _ _ _ _ (by decide) (by decide) Hd6.out)
        have Hi7 := Lib.hid (hsp.own _ _ _ _ _ _ (by decide) (by decide) Hi6.out)
        have HR7 := Lib.hid (hsp.own _ _ _ _ _ _ (by decide) (by decide) HR6.out)
        have HB7 := Lib.hid hB7
        have y7 := hsp.bel.size
        clear hB7 hsp HT6 Ha6 Hc6 Hd6 Hi6 HR6 HB6
        go_wp2_with fail
        refine (bookE_add w5 _ G G (G + 1) _ _ v3.heap.size v4.heap.size ML.length _ ui ML HB7.out (fun _ h => h.elim) Hi7.out Hui1.out (by omega) (by omega) (by omega) (by omega) z4).mono ?_
        rintro x v8 ⟨rfl, hB8, hsp⟩
        have hT8 := HT7.out.spare hsp (by decide) (by decide)
        have ha8 := hsp.own _ _ _ _ _ _ (by decide) (by decide) Ha7.out
        have hc8 := hsp.own _ _ _ _ _ _ (by decide) (by decide) Hc7.out
        have hd8 := hsp.own _ _ _ _ _ _ (by decide) (by decide) Hd7.out
        have hi8 := hsp.own _ _ _ _ _ _ (by decide) (by decide) Hi7.out
        have hR8 := hsp.own _ _ _ _ _ _ (by decide) (by decide) HR7.out
        have HB8 := Lib.hid hB8
        have y8 := hsp.bel.size
        obtain ⟨Aa, ca, rfl, _⟩ := own_slice ha8
        obtain ⟨Ac, cc, rfl, _⟩ := own_slice hc8
        obtain ⟨Ad, cd, rfl, _⟩ := own_slice hd8
        obtain ⟨Ai, ci, rfl, _⟩ := own_slice hi8
        have hF : ∀ wx, Below v8.heap.size v8 wx → TblIs wx _ gt l ∧ SlR wx v8.heap.size 3 Aa l.length (enVs l) ∧ SlR wx v8.heap.size 3 Ac RL.length (enVs RL) ∧ SlR wx v8.heap.size 1 Ad FL.length (intVs FL) ∧ SlR wx v8.heap.size 3 Ai ML.length (enVs ML) ∧ SlR wx v8.heap.size 3 PA l.length (enVs l) := fun wx hx =>
          ⟨hT8.below hx (Nat.le_refl _), (SlR.own ha8).below hx, (SlR.own hc8).below hx, (SlR.own hd8).below hx, (SlR.own hi8).below hx, (SlR.own hR8).below hx⟩
        have HF := Lib.hid hF
        clear hB8 hsp HT7 Ha7 Hc7 Hd7 Hi7 HR7 HB7 hT8 ha8 hc8 hd8 hi8 hR8 hF
        have hr8 := Below.refl v8.heap.size v8
        have Hr8 := Lib.hid hr8
        obtain ⟨lp, hlp⟩ : ∃ p, p = (lastE l hash).getD (0, 0, 0) := ⟨_, rfl⟩
        obtain ⟨lq, hlq⟩ : ∃ q, q = (lastE l hash).isSome := ⟨_, rfl⟩
        have hlT := tblLast_any _ gt l hash v8 (HF.out v8 hr8).1 (by omega)
        have hlR := fun wx (hx : Below v8.heap.size v8 wx) => refLast_any PA l.length Pc v8.heap.size l hash wx (HF.out wx hx).2.2.2.2.2 hx.size (by omega)
        rw [← hlp, ← hlq] at hlT
        simp only [← hlp, ← hlq] at hlR
        obtain ⟨l0, l1, l2⟩ := lp
        unfold enA at hlT hlR
        dsimp only at hlT hlR
        have HlT := Lib.hid hlT; have HlR := Lib.hid hlR
        clear hlT hlR hlp hlq hr8
        go_wp2_with fail
        refine HlT.out.mono ?_
        rintro x v9 ⟨rfl, hb9⟩
        obtain ⟨V9, hV9⟩ : ∃ V, v9.alloc (.cells #[.int .i64 l0, .int .i64 l1, .int .i64 l2] 53) = V := ⟨_, rfl⟩
        have hE9 : BlkIs V9 v9.heap.size 53 #[.int .i64 l0, .int .i64 l1, .int .i64 l2] := by rw [← hV9]; exact BlkIs.new _ _ _
        have hb9' : Below v8.heap.size v8 V9 := by rw [← hV9]; exact hb9.alloc hb9.size _
        have HE9 := Lib.hid hE9; have Hb9 := Lib.hid hb9'
        clear hb9 hE9 hb9' HlT
        go_wp2_with fail
        refine (HlR.out _ (by first | exact Hb9.out | (rw [hV9]; exact Hb9.out))).mono ?_
        rintro x v10 ⟨rfl, hb10⟩
        (try rw [hV9] at hb10)
        obtain ⟨V10, hV10⟩ : ∃ V, v10.alloc (.cells #[.int .i64 l0, .int .i64 l1, .int .i64 l2] 56) = V := ⟨_, rfl⟩
        have hE10 : BlkIs V10 v10.heap.size 56 #[.int .i64 l0, .int .i64 l1, .int .i64 l2] := by rw [← hV10]; exact BlkIs.new _ _ _
        have hbq10 : Below v10.heap.size v10 V10 := by rw [← hV10]; exact (Below.refl _ _).alloc (Nat.le_refl _) _
        have HE9' := Lib.hid ((HE9.out.below hb10 HE9.out.lt).below hbq10 (Nat.lt_of_lt_of_le HE9.out.lt hb10.size))
        have HE10 := Lib.hid hE10
        have Hb10 := Lib.hid ((Hb9.out.trans (hb10.mono Hb9.out.size)).trans (hbq10.mono (Nat.le_trans Hb9.out.size hb10.size)))
        have hcc : ∀ wx, Below V10.heap.size V10 wx → (wx.cell? ⟨v9.heap.size, 0, none⟩ = some (.int .i64 l0) ∧ wx.cell? ⟨v9.heap.size, 1, none⟩ = some (.int .i64 l1) ∧ wx.cell? ⟨v9.heap.size, 2, none⟩ = some (.int .i64 l2)) ∧ (wx.cell? ⟨v10.heap.size, 0, none⟩ = some (.int .i64 l0) ∧ wx.cell? ⟨v10.heap.size, 1, none⟩ = some (.int .i64 l1) ∧ wx.cell? ⟨v10.heap.size, 2, none⟩ = some (.int .i64 l2)) := fun wx hx => by
          have f := (HE9'.out.below hx HE9'.out.lt).cell
          have g := (HE10.out.below hx HE10.out.lt).cell
          exact ⟨⟨f 0, f 1, f 2⟩, g 0, g 1, g 2⟩
        have Hcc := Lib.hid hcc
        clear hb10 hE10 hbq10 hcc HlR
        have hreal := fun wx (hx : Below v8.heap.size v8 wx) => real12_any PA l.length Pc v8.heap.size l wx (HF.out wx hx).2.2.2.2.2 hx.size (by omega)
        have Hreal := Lib.hid hreal
        clear hreal
        have hqq : (lq != lq) = false := by simp
        have hNe : ∀ w, (binOp .neq 53 (.agg #[.int .i64 l0, .int .i64 l1, .int .i64 l2]) (.agg #[.int .i64 l0, .int .i64 l1, .int .i64 l2])).run Tryz.prog w = .ok (.bool false) w := fun w => by rw [run_neq_en]; simp
        have hnn : ((l.length : Int) != (l.length : Int)) = false := by simp
        go_wp2_with fail
        refine (Hreal.out _ (by first | exact Hb10.out | (rw [hV10]; exact Hb10.out))).mono ?_
        rintro x v11 ⟨u11, rfl, ho11, hb11⟩
        (try rw [hV10] at hb11)
        obtain ⟨A11, c11, rfl, _⟩ := own_slice ho11
        have Hb11 := Lib.hid (Hb10.out.trans (hb11.mono Hb10.out.size))
        have Hw11 := Lib.hid hb11
        have hsame := sameEntries_eq v8.heap.size v11.heap.size l.length ca c11 Aa A11 l v11 (HF.out _ Hb11.out).2.1 (by simpa using SlR.own ho11) (by omega)
        have Hsame := Lib.hid hsame
        clear ho11 hb11 hsame
        go_wp2_with fail
        refine Hsame.out.mono ?_
        rintro x v12 ⟨rfl, k12, rfl⟩
        have Hb12 := Lib.hid (below_drewN Hb11.out k12); have Hw12 := Lib.hid (below_drewN Hw11.out k12)
        obtain ⟨v12, hv12⟩ : ∃ v, v11.drewN k12 = v := ⟨_, rfl⟩
        rw [hv12] at Hb12 Hw12 ⊢
        clear hv12 Hb11 Hw11 Hsame
        have hrr := refRange_any PA l.length Pc v8.heap.size l hash from_ to_ v12 (HF.out _ Hb12.out).2.2.2.2.2 Hb12.out.size (by omega)
        rw [HRL.out] at hrr
        have Hrr := Lib.hid hrr
        clear hrr
        go_wp2_with fail
        refine Hrr.out.mono ?_
        rintro x v13 ⟨u13, rfl, ho13, hb13⟩
        obtain ⟨A13, c13, rfl, _⟩ := own_slice ho13
        have Hb13 := Lib.hid (Hb12.out.trans (hb13.mono Hb12.out.size)); have Hw13 := Lib.hid (Hw12.out.trans (hb13.mono Hw12.out.size))
        have hre := real12_any A13 RL.length c13 v13.heap.size RL v13 (SlR.own ho13) (Nat.le_refl _) (by omega)
        have Hre := Lib.hid hre
        clear ho13 hb13 hre Hb12 Hw12 Hrr
        go_wp2_with fail
        refine Hre.out.mono ?_
        rintro x v14 ⟨u14, rfl, ho14, hb14⟩
        obtain ⟨A14, c14, rfl, _⟩ := own_slice ho14
        have Hb14 := Lib.hid (Hb13.out.trans (hb14.mono Hb13.out.size)); have Hw14 := Lib.hid (Hw13.out.trans (hb14.mono Hw13.out.size))
        have hsame := sameEntries_eq v8.heap.size v14.heap.size RL.length cc c14 Ac A14 RL v14 (HF.out _ Hb14.out).2.2.1 (SlR.own ho14) (by omega)
        have Hsame := Lib.hid hsame
        clear ho14 hb14 hsame Hb13 Hw13 Hre
        go_wp2_with fail
        refine Hsame.out.mono ?_
        rintro x v15 ⟨rfl, k15, rfl⟩
        have Hb15 := Lib.hid (below_drewN Hb14.out k15); have Hw15 := Lib.hid (below_drewN Hw14.out k15)
        obtain ⟨v15, hv15⟩ : ∃ v, v14.drewN k15 = v := ⟨_, rfl⟩
        rw [hv15] at Hb15 Hw15 ⊢
        clear hv15 Hb14 Hw14 Hsame
        have hrf := refFind_any PA l.length Pc v8.heap.size l hash from_ v15 (HF.out _ Hb15.out).2.2.2.2.2 Hb15.out.size (by omega)
        rw [HFL.out] at hrf
        have Hrf := Lib.hid hrf
        clear hrf
        go_wp2_with fail
        refine Hrf.out.mono ?_
        rintro x v16 ⟨u16, rfl, ho16, hb16⟩
        obtain ⟨A16, c16, rfl, _⟩ := own_slice ho16
        have Hb16 := Lib.hid (Hb15.out.trans (hb16.mono Hb15.out.size)); have Hw16 := Lib.hid (Hw15.out.trans (hb16.mono Hw15.out.size))
        have hsi := sameInts_any v8.heap.size v16.heap.size FL.length FL.length cd c16 Ad A16 FL FL v16 (HF.out _ Hb16.out).2.2.2.1 (SlR.own ho16) (by omega) (by omega)
        rw [decide_eq_true rfl] at hsi
        have Hsi := Lib.hid hsi
        clear ho16 hb16 hsi Hb15 Hw15 Hrf
        go_wp2_with fail
        refine Hsi.out.mono ?_
        rintro x v17 ⟨rfl, k17, rfl⟩
        have Hb17 := Lib.hid (below_drewN Hb16.out k17); have Hw17 := Lib.hid (below_drewN Hw16.out k17)
        obtain ⟨v17, hv17⟩ : ∃ v, v16.drewN k17 = v := ⟨_, rfl⟩
        rw [hv17] at Hb17 Hw17 ⊢
        clear hv17 Hb16 Hw16 Hsi
        have hrm := refMids_any PA l.length Pc v8.heap.size l v17 (HF.out _ Hb17.out).2.2.2.2.2 Hb17.out.size (by omega)
        rw [HML.out] at hrm
        have Hrm := Lib.hid hrm
        clear hrm
        go_wp2_with fail
        refine Hrm.out.mono ?_
        rintro x v18 ⟨u18, rfl, ho18, hb18⟩
        obtain ⟨A18, c18, rfl, _⟩ := own_slice ho18
        have Hb18 := Lib.hid (Hb17.out.trans (hb18.mono Hb17.out.size)); have Hw18 := Lib.hid (Hw17.out.trans (hb18.mono Hw17.out.size))
        have hre := real12_any A18 ML.length c18 v18.heap.size ML v18 (SlR.own ho18) (Nat.le_refl _) (by omega)
        have Hre := Lib.hid hre
        clear ho18 hb18 hre Hb17 Hw17 Hrm
        go_wp2_with fail
        refine Hre.out.mono ?_
        rintro x v19 ⟨u19, rfl, ho19, hb19⟩
        obtain ⟨A19, c19, rfl, _⟩ := own_slice ho19
        have Hb19 := Lib.hid (Hb18.out.trans (hb19.mono Hb18.out.size)); have Hw19 := Lib.hid (Hw18.out.trans (hb19.mono Hw18.out.size))
        have hsame := sameEntries_eq v8.heap.size v19.heap.size ML.length ci c19 Ai A19 ML v19 (HF.out _ Hb19.out).2.2.2.2.1 (SlR.own ho19) (by omega)
        have Hsame := Lib.hid hsame
        clear ho19 hb19 hsame Hb18 Hw18 Hre
        go_wp2_with fail
        refine Hsame.out.mono ?_
        rintro x v20 ⟨rfl, k20, rfl⟩
        have Hb20 := Lib.hid (below_drewN Hb19.out k20); have Hw20 := Lib.hid (below_drewN Hw19.out k20)
        obtain ⟨v20, hv20⟩ : ∃ v, v19.drewN k20 = v := ⟨_, rfl⟩
        rw [hv20] at Hb20 Hw20 ⊢
        clear hv20 Hb19 Hw19 Hsame
        obtain ⟨⟨f0, f1, f2⟩, g0, g1, g2⟩ := Hcc.out _ Hw20.out
        have hlc := tblLen_any _ gt l v20 (HF.out _ Hb20.out).1 (by omega)
        have Hlc := Lib.hid hlc
        clear hlc
        go_wp2_with fail
        refine Hlc.out.mono ?_
        rintro x v21 ⟨rfl, rfl⟩
        have HBf := Lib.hid (((HB8.out.under Hb20.out).far (show v4.heap.size ≤ v20.heap.size by have := Hb20.out.size; omega)).more (show _ ≤ 1 + 1 by omega) (show _ ≤ 3 * (1 + 1) by omega))
        clear f0 f1 f2 g0 g1 g2 Hcc
        go_wp2_with fail
        go_roundw
        case rel => exact ⟨1 + 1, by omega, by go_num, HBf⟩
        case measure => simp [intOf]
      · by_cases hx0 : x0 = 0
        · subst hx0
          obtain ⟨gt, rfl, hT⟩ := Hpy8.out rfl
          obtain ⟨hmay, hLlen⟩ := Hx0L.out rfl
          obtain ⟨RA, Rc, rfl, hRc⟩ := own_slice Hur.out
          have HT := Lib.hid hT; have HR := Hur
          have Hso := Lib.hid (mayT_sorted hmay)
          have Hpos := Lib.hid (mayT_pos hmay)
          have hbase9 : G + 1 ≤ w8.heap.size := HBk8.out.size
          have HBkO := Lib.hid (HBk8.out.far (show wr.heap.size ≤ w8.heap.size by omega))
          clear hT hmay HBk8
          have hcond : ((k : Int) == 1) = false ∨ ((k : Int) == 1) = true ∧ (e1 == 0) = false := by
            by_cases h : k = 1
            · exact .inr ⟨by rw [beq_iff_eq]; omega, by rw [beq_eq_false_iff_ne]; exact fun h2 => hk1 ⟨h, h2⟩⟩
            · exact .inl (by rw [beq_eq_false_iff_ne]; omega)
          rcases hcond with hc1 | ⟨hc1, hc2⟩
          all_goals
            go_wp2_with fail
            refine (tblAll_any _ gt L0 _ HT.out (by omega)).mono ?_
            rintro x v1 ⟨ua, rfl, ha, ha1⟩
            have Ha := Lib.hid ha
            have HT1 := Lib.hid (HT.out.below ha1 (Nat.le_refl _))
            have HZ1 := Lib.hid ha1
            clear ha ha1
            go_wp2_with fail
            refine (tblRange_any _ gt L0 hash from_ to_ _ HT1.out (by omega) Hso.out Hpos.out).mono ?_
            rintro x v2 ⟨uc, rfl, hc, ha2⟩
            have Hc := Lib.hid hc
            have HT2 := Lib.hid (HT1.out.below ha2 (Nat.le_refl _))
            have HZ2 := Lib.hid ha2
            clear hc ha2
            go_wp2_with fail
            refine (tblFind_any _ gt L0 hash from_ _ HT2.out (by omega) Hso.out Hpos.out).mono ?_
            rintro x v3 ⟨ud, rfl, hd, ha3⟩
            have Hd := Lib.hid hd
            have HT3 := Lib.hid (HT2.out.below ha3 (Nat.le_refl _))
            have HZ3 := Lib.hid ha3
            clear hd ha3
            go_wp2_with fail
            refine (tblMids_any _ gt L0 _ HT3.out (by omega)).mono ?_
            rintro x v4 ⟨ui, rfl, hi, ha4⟩
            have Hi := Lib.hid hi
            have HT4 := Lib.hid (HT3.out.below ha4 (Nat.le_refl _))
            have HZ4 := Lib.hid ha4
            clear hi ha4
            have z1 := HZ1.out.size; have z2 := HZ2.out.size; have z3 := HZ3.out.size; have z4 := HZ4.out.size
            have hrl := range_le L0 hash from_ to_
            have hfl := find_le L0 hash from_
            have hmlen := mids_length_le L0
            have ua1 : ∀ b, ua.ownBlock = some b → b < v1.heap.size := fun b hb => (Ha.out.lt b hb).2
            have uc1 : ∀ b, uc.ownBlock = some b → b < v2.heap.size := fun b hb => (Hc.out.lt b hb).2
            have ud1 : ∀ b, ud.ownBlock = some b → b < v3.heap.size := fun b hb => (Hd.out.lt b hb).2
            have ui1 : ∀ b, ui.ownBlock = some b → b < v4.heap.size := fun b hb => (Hi.out.lt b hb).2
            have HZ14 := Lib.hid (HZ2.out.trans ((HZ3.out.trans (HZ4.out.mono z3)).mono z2))
            have HZ24 := Lib.hid (HZ3.out.trans (HZ4.out.mono z3))
            have HZ04 := Lib.hid (HZ1.out.trans (HZ14.out.mono z1))
            have Ha4 := Lib.hid (own_below Ha.out HZ14.out (fun q hq => ua1 q hq))
            have Hc4 := Lib.hid (own_below Hc.out HZ24.out (fun q hq => uc1 q hq))
            have Hd4 := Lib.hid (own_below Hd.out HZ4.out (fun q hq => ud1 q hq))
            have HR4 := Lib.hid (own_below HR.out HZ04.out (fun q hq => (HR.out.lt q hq).2))
            have HB4 := Lib.hid (HBkO.out.under HZ04.out)
            have Hua1 := Lib.hid ua1; have Huc1 := Lib.hid uc1; have Hud1 := Lib.hid ud1; have Hui1 := Lib.hid ui1
            clear ua1 uc1 ud1 ui1 HT1 HT2 HT3 HT HR Ha Hc Hd HBkO
            obtain ⟨RL, hRL⟩ : ∃ q, rangeE L0 hash from_ to_ = q := ⟨_, rfl⟩
            obtain ⟨FL, hFL⟩ : ∃ q, findE L0 hash from_ = q := ⟨_, rfl⟩
            obtain ⟨ML, hML⟩ : ∃ q, midsE L0 = q := ⟨_, rfl⟩
            rw [hRL] at Hc4 hrl
            rw [hFL] at Hd4 hfl
            rw [hML] at Hi hmlen
            have HRL := Lib.hid hRL; have HFL := Lib.hid hFL; have HML := Lib.hid hML
            clear hRL hFL hML
            go_wp2_with fail
            refine (bookE_add w5 _ G G (G + 1) _ _ w8.heap.size v1.heap.size L0.length _ ua L0 HB4.out (fun _ h => h.elim) Ha4.out Hua1.out (by omega) (by omega) (by omega) hbase9 z1).mono ?_
            rintro x v5 ⟨rfl, hB5, hsp⟩
            have HT5 := Lib.hid (HT4.out.spare hsp (by decide) (by decide))
            have Ha5 := Lib.hid (hsp.own _ _ _ _ _ _ (by decide) (by decide) Ha4.out)
            have Hc5 := Lib.hid (hsp.own _ _ _ _ _ _ (by decide) (by decide) Hc4.out)
            have Hd5 := Lib.hid (hsp.own _ _ _ _ _ _ (by decide) (by decide) Hd4.out)
            have Hi5 := Lib.hid (hsp.own _ _ _ _ _ _ (by decide) (by decide) Hi.out)
            have HR5 := Lib.hid (hsp.own _ _ _ _ _ _ (by decide) (by decide) HR4.out)
            have HB5 := Lib.hid hB5
            have y5 := hsp.bel.size
            clear hB5 hsp HT4 Ha4 Hc4 Hd4 Hi HR4 HB4
            go_wp2_with fail
            refine (bookE_add w5 _ G G (G + 1) _ _ v1.heap.size v2.heap.size RL.length _ uc RL HB5.out (fun _ h => h.elim) Hc5.out Huc1.out (by omega) (by omega) (by omega) (by omega) z2).mono ?_
            rintro x v6 ⟨rfl, hB6, hsp⟩
            have HT6 := Lib.hid (HT5.out.spare hsp (by decide) (by decide))
            have Ha6 := Lib.hid (hsp.own _ _ _ _ _ _ (by decide) (by decide) Ha5.out)
            have Hc6 := Lib.hid (hsp.own _ _ _ _ _ _ (by decide) (by decide) Hc5.out)
            have Hd6 := Lib.hid (hsp.own _ _ _ _ _ _ (by decide) (by decide) Hd5.out)
            have Hi6 := Lib.hid (hsp.own _ _ _ _ _ _ (by decide) (by decide) Hi5.out)
            have HR6 := Lib.hid (hsp.own _ _ _ _ _ _ (by decide) (by decide) HR5.out)
            have HB6 := Lib.hid hB6
            have y6 := hsp.bel.size
            clear hB6 hsp HT5 Ha5 Hc5 Hd5 Hi5 HR5 HB5
            go_wp2_with fail
            refine (bookI_add w5 _ G G (G + 1) _ _ v2.heap.size v3.heap.size FL.length _ ud FL HB6.out Hd6.out Hud1.out (by omega) (by omega) (by omega) z3).mono ?_
            rintro x v7 ⟨rfl, hB7, hsp⟩
            have HT7 := Lib.hid (HT6.out.spare hsp (by decide) (by decide))
            have Ha7 := Lib.hid (hsp.own _ _ _ _ _ _ (by decide) (by decide) Ha6.out)
            have Hc7 := Lib.hid (hsp.own _ _ _ _ _ _ (by decide) (by decide) Hc6.out)
            have Hd7 := Lib.hid (hsp.own _ _ _ _ _ _ (by decide) (by decide) Hd6.out)
            have Hi7 := Lib.hid (hsp.own _ _ _ _ _ _ (by decide) (by decide) Hi6.out)
            have HR7 := Lib.hid (hsp.own _ _ _ _ _ _ (by decide) (by decide) HR6.out)
            have HB7 := Lib.hid hB7
            have y7 := hsp.bel.size
            clear hB7 hsp HT6 Ha6 Hc6 Hd6 Hi6 HR6 HB6
            go_wp2_with fail
            refine (bookE_add w5 _ G G (G + 1) _ _ v3.heap.size v4.heap.size ML.length _ ui ML HB7.out (fun _ h => h.elim) Hi7.out Hui1.out (by omega) (by omega) (by omega) (by omega) z4).mono ?_
            rintro x v8 ⟨rfl, hB8, hsp⟩
            have hT8 := HT7.out.spare hsp (by decide) (by decide)
            have ha8 := hsp.own _ _ _ _ _ _ (by decide) (by decide) Ha7.out
            have hc8 := hsp.own _ _ _ _ _ _ (by decide) (by decide) Hc7.out
            have hd8 := hsp.own _ _ _ _ _ _ (by decide) (by decide) Hd7.out
            have hi8 := hsp.own _ _ _ _ _ _ (by decide) (by decide) Hi7.out
            have hR8 := hsp.own _ _ _ _ _ _ (by decide) (by decide) HR7.out
            have HB8 := Lib.hid hB8
            have y8 := hsp.bel.size
            obtain ⟨Aa, ca, rfl, _⟩ := own_slice ha8
            obtain ⟨Ac, cc, rfl, _⟩ := own_slice hc8
            obtain ⟨Ad, cd, rfl, _⟩ := own_slice hd8
            obtain ⟨Ai, ci, rfl, _⟩ := own_slice hi8
            have hF : ∀ wx, Below v8.heap.size v8 wx → TblIs wx _ gt L0 ∧ SlR wx v8.heap.size 3 Aa L0.length (enVs L0) ∧ SlR wx v8.heap.size 3 Ac RL.length (enVs RL) ∧ SlR wx v8.heap.size 1 Ad FL.length (intVs FL) ∧ SlR wx v8.heap.size 3 Ai ML.length (enVs ML) ∧ SlR wx v8.heap.size 3 RA L0.length (enVs L0) := fun wx hx =>
              ⟨hT8.below hx (Nat.le_refl _), (SlR.own ha8).below hx, (SlR.own hc8).below hx, (SlR.own hd8).below hx, (SlR.own hi8).below hx, (SlR.own hR8).below hx⟩
            have HF := Lib.hid hF
            clear hB8 hsp HT7 Ha7 Hc7 Hd7 Hi7 HR7 HB7 hT8 ha8 hc8 hd8 hi8 hR8 hF
            have hr8 := Below.refl v8.heap.size v8
            have Hr8 := Lib.hid hr8
            obtain ⟨lp, hlp⟩ : ∃ p, p = (lastE L0 hash).getD (0, 0, 0) := ⟨_, rfl⟩
            obtain ⟨lq, hlq⟩ : ∃ q, q = (lastE L0 hash).isSome := ⟨_, rfl⟩
            have hlT := tblLast_any _ gt L0 hash v8 (HF.out v8 hr8).1 (by omega)
            have hlR := fun wx (hx : Below v8.heap.size v8 wx) => refLast_any RA L0.length Rc v8.heap.size L0 hash wx (HF.out wx hx).2.2.2.2.2 hx.size (by omega)
            rw [← hlp, ← hlq] at hlT
            simp only [← hlp, ← hlq] at hlR
            obtain ⟨l0, l1, l2⟩ := lp
            unfold enA at hlT hlR
            dsimp only at hlT hlR
            have HlT := Lib.hid hlT; have HlR := Lib.hid hlR
            clear hlT hlR hlp hlq hr8
            go_wp2_with fail
            refine HlT.out.mono ?_
            rintro x v9 ⟨rfl, hb9⟩
            obtain ⟨V9, hV9⟩ : ∃ V, v9.alloc (.cells #[.int .i64 l0, .int .i64 l1, .int .i64 l2] 53) = V := ⟨_, rfl⟩
            have hE9 : BlkIs V9 v9.heap.size 53 #[.int .i64 l0, .int .i64 l1, .int .i64 l2] := by rw [← hV9]; exact BlkIs.new _ _ _
            have hb9' : Below v8.heap.size v8 V9 := by rw [← hV9]; exact hb9.alloc hb9.size _
            have HE9 := Lib.hid hE9; have Hb9 := Lib.hid hb9'
            clear hb9 hE9 hb9' HlT
            go_wp2_with fail
            refine (HlR.out _ (by first | exact Hb9.out | (rw [hV9]; exact Hb9.out))).mono ?_
            rintro x v10 ⟨rfl, hb10⟩
            (try rw [hV9] at hb10)
            obtain ⟨V10, hV10⟩ : ∃ V, v10.alloc (.cells #[.int .i64 l0, .int .i64 l1, .int .i64 l2] 56) = V := ⟨_, rfl⟩
            have hE10 : BlkIs V10 v10.heap.size 56 #[.int .i64 l0, .int .i64 l1, .int .i64 l2] := by rw [← hV10]; exact BlkIs.new _ _ _
            have hbq10 : Below v10.heap.size v10 V10 := by rw [← hV10]; exact (Below.refl _ _).alloc (Nat.le_refl _) _
            have HE9' := Lib.hid ((HE9.out.below hb10 HE9.out.lt).below hbq10 (Nat.lt_of_lt_of_le HE9.out.lt hb10.size))
            have HE10 := Lib.hid hE10
            have Hb10 := Lib.hid ((Hb9.out.trans (hb10.mono Hb9.out.size)).trans (hbq10.mono (Nat.le_trans Hb9.out.size hb10.size)))
            have hcc : ∀ wx, Below V10.heap.size V10 wx → (wx.cell? ⟨v9.heap.size, 0, none⟩ = some (.int .i64 l0) ∧ wx.cell? ⟨v9.heap.size, 1, none⟩ = some (.int .i64 l1) ∧ wx.cell? ⟨v9.heap.size, 2, none⟩ = some (.int .i64 l2)) ∧ (wx.cell? ⟨v10.heap.size, 0, none⟩ = some (.int .i64 l0) ∧ wx.cell? ⟨v10.heap.size, 1, none⟩ = some (.int .i64 l1) ∧ wx.cell? ⟨v10.heap.size, 2, none⟩ = some (.int .i64 l2)) := fun wx hx => by
              have f := (HE9'.out.below hx HE9'.out.lt).cell
              have g := (HE10.out.below hx HE10.out.lt).cell
              exact ⟨⟨f 0, f 1, f 2⟩, g 0, g 1, g 2⟩
            have Hcc := Lib.hid hcc
            clear hb10 hE10 hbq10 hcc HlR
            have hreal := fun wx (hx : Below v8.heap.size v8 wx) => real12_any RA L0.length Rc v8.heap.size L0 wx (HF.out wx hx).2.2.2.2.2 hx.size (by omega)
            have Hreal := Lib.hid hreal
            clear hreal
            have hqq : (lq != lq) = false := by simp
            have hNe : ∀ w, (binOp .neq 53 (.agg #[.int .i64 l0, .int .i64 l1, .int .i64 l2]) (.agg #[.int .i64 l0, .int .i64 l1, .int .i64 l2])).run Tryz.prog w = .ok (.bool false) w := fun w => by rw [run_neq_en]; simp
            have hnn : ((L0.length : Int) != (L0.length : Int)) = false := by simp
            go_wp2_with fail
            refine (Hreal.out _ (by first | exact Hb10.out | (rw [hV10]; exact Hb10.out))).mono ?_
            rintro x v11 ⟨u11, rfl, ho11, hb11⟩
            (try rw [hV10] at hb11)
            obtain ⟨A11, c11, rfl, _⟩ := own_slice ho11
            have Hb11 := Lib.hid (Hb10.out.trans (hb11.mono Hb10.out.size))
            have Hw11 := Lib.hid hb11
            have hsame := sameEntries_eq v8.heap.size v11.heap.size L0.length ca c11 Aa A11 L0 v11 (HF.out _ Hb11.out).2.1 (by simpa using SlR.own ho11) (by omega)
            have Hsame := Lib.hid hsame
            clear ho11 hb11 hsame
            go_wp2_with fail
            refine Hsame.out.mono ?_
            rintro x v12 ⟨rfl, k12, rfl⟩
            have Hb12 := Lib.hid (below_drewN Hb11.out k12); have Hw12 := Lib.hid (below_drewN Hw11.out k12)
            obtain ⟨v12, hv12⟩ : ∃ v, v11.drewN k12 = v := ⟨_, rfl⟩
            rw [hv12] at Hb12 Hw12 ⊢
            clear hv12 Hb11 Hw11 Hsame
            have hrr := refRange_any RA L0.length Rc v8.heap.size L0 hash from_ to_ v12 (HF.out _ Hb12.out).2.2.2.2.2 Hb12.out.size (by omega)
            rw [HRL.out] at hrr
            have Hrr := Lib.hid hrr
            clear hrr
            go_wp2_with fail
            refine Hrr.out.mono ?_
            rintro x v13 ⟨u13, rfl, ho13, hb13⟩
            obtain ⟨A13, c13, rfl, _⟩ := own_slice ho13
            have Hb13 := Lib.hid (Hb12.out.trans (hb13.mono Hb12.out.size)); have Hw13 := Lib.hid (Hw12.out.trans (hb13.mono Hw12.out.size))
            have hre := real12_any A13 RL.length c13 v13.heap.size RL v13 (SlR.own ho13) (Nat.le_refl _) (by omega)
            have Hre := Lib.hid hre
            clear ho13 hb13 hre Hb12 Hw12 Hrr
            go_wp2_with fail
            refine Hre.out.mono ?_
            rintro x v14 ⟨u14, rfl, ho14, hb14⟩
            obtain ⟨A14, c14, rfl, _⟩ := own_slice ho14
            have Hb14 := Lib.hid (Hb13.out.trans (hb14.mono Hb13.out.size)); have Hw14 := Lib.hid (Hw13.out.trans (hb14.mono Hw13.out.size))
            have hsame := sameEntries_eq v8.heap.size v14.heap.size RL.length cc c14 Ac A14 RL v14 (HF.out _ Hb14.out).2.2.1 (SlR.own ho14) (by omega)
            have Hsame := Lib.hid hsame
            clear ho14 hb14 hsame Hb13 Hw13 Hre
            go_wp2_with fail
            refine Hsame.out.mono ?_
            rintro x v15 ⟨rfl, k15, rfl⟩
            have Hb15 := Lib.hid (below_drewN Hb14.out k15); have Hw15 := Lib.hid (below_drewN Hw14.out k15)
            obtain ⟨v15, hv15⟩ : ∃ v, v14.drewN k15 = v := ⟨_, rfl⟩
            rw [hv15] at Hb15 Hw15 ⊢
            clear hv15 Hb14 Hw14 Hsame
            have hrf := refFind_any RA L0.length Rc v8.heap.size L0 hash from_ v15 (HF.out _ Hb15.out).2.2.2.2.2 Hb15.out.size (by omega)
            rw [HFL.out] at hrf
            have Hrf := Lib.hid hrf
            clear hrf
            go_wp2_with fail
            refine Hrf.out.mono ?_
            rintro x v16 ⟨u16, rfl, ho16, hb16⟩
            obtain ⟨A16, c16, rfl, _⟩ := own_slice ho16
            have Hb16 := Lib.hid (Hb15.out.trans (hb16.mono Hb15.out.size)); have Hw16 := Lib.hid (Hw15.out.trans (hb16.mono Hw15.out.size))
            have hsi := sameInts_any v8.heap.size v16.heap.size FL.length FL.length cd c16 Ad A16 FL FL v16 (HF.out _ Hb16.out).2.2.2.1 (SlR.own ho16) (by omega) (by omega)
            rw [decide_eq_true rfl] at hsi
            have Hsi := Lib.hid hsi
            clear ho16 hb16 hsi Hb15 Hw15 Hrf
            go_wp2_with fail
            refine Hsi.out.mono ?_
            rintro x v17 ⟨rfl, k17, rfl⟩
            have Hb17 := Lib.hid (below_drewN Hb16.out k17); have Hw17 := Lib.hid (below_drewN Hw16.out k17)
            obtain ⟨v17, hv17⟩ : ∃ v, v16.drewN k17 = v := ⟨_, rfl⟩
            rw [hv17] at Hb17 Hw17 ⊢
            clear hv17 Hb16 Hw16 Hsi
            have hrm := refMids_any RA L0.length Rc v8.heap.size L0 v17 (HF.out _ Hb17.out).2.2.2.2.2 Hb17.out.size (by omega)
            rw [HML.out] at hrm
            have Hrm := Lib.hid hrm
            clear hrm
            go_wp2_with fail
            refine Hrm.out.mono ?_
            rintro x v18 ⟨u18, rfl, ho18, hb18⟩
            obtain ⟨A18, c18, rfl, _⟩ := own_slice ho18
            have Hb18 := Lib.hid (Hb17.out.trans (hb18.mono Hb17.out.size)); have Hw18 := Lib.hid (Hw17.out.trans (hb18.mono Hw17.out.size))
            have hre := real12_any A18 ML.length c18 v18.heap.size ML v18 (SlR.own ho18) (Nat.le_refl _) (by omega)
            have Hre := Lib.hid hre
            clear ho18 hb18 hre Hb17 Hw17 Hrm
            go_wp2_with fail
            refine Hre.out.mono ?_
            rintro x v19 ⟨u19, rfl, ho19, hb19⟩
            obtain ⟨A19, c19, rfl, _⟩ := own_slice ho19
            have Hb19 := Lib.hid (Hb18.out.trans (hb19.mono Hb18.out.size)); have Hw19 := Lib.hid (Hw18.out.trans (hb19.mono Hw18.out.size))
            have hsame := sameEntries_eq v8.heap.size v19.heap.size ML.length ci c19 Ai A19 ML v19 (HF.out _ Hb19.out).2.2.2.2.1 (SlR.own ho19) (by omega)
            have Hsame := Lib.hid hsame
            clear ho19 hb19 hsame Hb18 Hw18 Hre
            go_wp2_with fail
            refine Hsame.out.mono ?_
            rintro x v20 ⟨rfl, k20, rfl⟩
            have Hb20 := Lib.hid (below_drewN Hb19.out k20); have Hw20 := Lib.hid (below_drewN Hw19.out k20)
            obtain ⟨v20, hv20⟩ : ∃ v, v19.drewN k20 = v := ⟨_, rfl⟩
            rw [hv20] at Hb20 Hw20 ⊢
            clear hv20 Hb19 Hw19 Hsame
            obtain ⟨⟨f0, f1, f2⟩, g0, g1, g2⟩ := Hcc.out _ Hw20.out
            have hlc := tblLen_any _ gt L0 v20 (HF.out _ Hb20.out).1 (by omega)
            have Hlc := Lib.hid hlc
            clear hlc
            go_wp2_with fail
            refine Hlc.out.mono ?_
            rintro x v21 ⟨rfl, rfl⟩
            have HBf := Lib.hid (((HB8.out.under Hb20.out).far (show v4.heap.size ≤ v20.heap.size by have := Hb20.out.size; omega)).more (show _ ≤ k + 1 by omega) (show _ ≤ 3 * (k + 1) by omega))
            clear f0 f1 f2 g0 g1 g2 Hcc
            go_wp2_with fail
            go_roundw
            case rel => exact ⟨k + 1, by omega, by go_num, HBf⟩
            case measure => simp [intOf]; omega
        · have hpn := Hpn.out hx0
          subst hpn
          have hx0b : (x0 == 0) = false := beq_eq_false_iff_ne.2 hx0
          have hcond : ((k : Int) == 1) = false ∨ ((k : Int) == 1) = true ∧ (e1 == 0) = false := by
            by_cases h : k = 1
            · exact .inr ⟨by rw [beq_iff_eq]; omega, by rw [beq_eq_false_iff_ne]; exact fun h2 => hk1 ⟨h, h2⟩⟩
            · exact .inl (by rw [beq_eq_false_iff_ne]; omega)
          have HBf := Lib.hid ((HBk8.out.far (show wr.heap.size ≤ w8.heap.size by omega)).more (Nat.le_succ k) (show 3 * k ≤ 3 * (k + 1) by omega))
          rcases hcond with hc1 | ⟨hc1, hc2⟩
          all_goals
            go_wp2_with fail
            go_roundw
            case rel => exact ⟨k + 1, by omega, by go_num, HBf⟩
            case measure => simp [intOf]; omega
    · obtain rfl : k = 2 := by omega
      have hlt2 : decide ((2 : Int) < 2) = false := by decide
      go_wp2_with fail
      refine (alive13_any _).mono ?_
      rintro x w7 ⟨rfl, hb7⟩
      have HBk7 := Lib.hid (HBk.out.under hb7)
      clear hb7
      go_wp2_with fail
      refine (bookIE_apart w5 w7 G G (G + 1) 2 6 _ _ HBk7.out (by omega) (by omega)).mono ?_
      rintro x w8 ⟨rfl, hb8⟩
      go_wp2_with fail
      go_ret
      exact ⟨rfl, Hb5.out.trans (hb8.mono (by have := Hb5.out.size; have := HG.out; omega))⟩
end Go.Proofs.YtfkkcgdniepgoaaGreat
