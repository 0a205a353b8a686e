/- chapter 21: VoteTells, walked. -/
import Derived.Test.YtbcbjibbeieaiaaLaw21
import Derived.Test.YtbcbjibbeieaiaaRefRead21
import Derived.Test.YtbcbjibbeieaiaaLentInts
import Derived.Deep.RegionHeld3
namespace Go.Proofs.Ytbcbjibbeieaiaa
open Go.RowKit
set_option maxHeartbeats 8000000
set_option maxRecDepth 100000
set_option linter.unusedVariables false

theorem voteTells_any (T F term who ea la eb lb nodes : Int) (A : Option Addr) (n cap : Nat) (zs : List Int) (s : ByteArray) (w : World) (hr : SlR w w.heap.size 1 A n (intVs zs)) (hnc : n ≤ cap) (hn9 : n ≤ 9223372036854775807) (hs9 : s.size ≤ 9223372036854775807)
    (hT : -9223372036854775808 ≤ T ∧ T ≤ 9223372036854775807) (hno : -9223372036854775808 ≤ nodes ∧ nodes ≤ 9223372036854775807) (hwf : ∀ z ∈ zs, (Lit.int .i64 z).wf = true) :
    Calls Try.prog 6 #[.agg #[.int .i64 T, .int .i64 F], .int .i64 term, .int .i64 who, .int .i64 ea, .int .i64 la, .int .i64 eb, .int .i64 lb, .int .i64 nodes, .slice A n cap, .string s] w fun e w' => e = .returned (.bool true) ∧ Below w.heap.size w w' := by
  by_cases t0 : n ≤ 40
  · by_cases t1 : s.size ≤ 1000
    · obtain ⟨⟨⟨xT, xF⟩, ok⟩, hask⟩ : ∃ r, askL (T, F) term who ea la eb lb = r := ⟨_, rfl⟩
      obtain ⟨⟨eT, eF⟩, hsee⟩ : ∃ r, seeL (T, F) term = r := ⟨_, rfl⟩
      obtain ⟨⟨dT, dF⟩, hstand⟩ : ∃ r, standL (T, F) who = r := ⟨_, rfl⟩
      obtain ⟨⟨ps, pe⟩, hput⟩ : ∃ r, putV (T, F) = r := ⟨_, rfl⟩
      obtain ⟨⟨⟨uT, uF⟩, un⟩, hread⟩ : ∃ r, readBytes s.data.toList = r := ⟨_, rfl⟩
      obtain ⟨nw, hnw⟩ : ∃ r, newerB ea la eb lb = r := ⟨_, rfl⟩
      obtain ⟨mj, hmj⟩ : ∃ r, majB nodes zs = r := ⟨_, rfl⟩
      have hno1 : -9223372036854775808 ≤ nodes := hno.1
      have hno2 : nodes ≤ 9223372036854775807 := hno.2
      have Hask := Lib.hid hask; have Hsee := Lib.hid hsee; have Hstand := Lib.hid hstand; have Hput := Lib.hid hput; have Hread := Lib.hid hread; have Hnw := Lib.hid hnw; have Hmj := Lib.hid hmj; have Hr := Lib.hid hr; have Hwf := Lib.hid hwf
      have HT := Lib.hid hT; have HNO := Lib.hid hno
      clear hask hsee hstand hput hread hnw hmj hr hwf hT hno hno1 hno2
      have B0 := Lib.hid (BlkIs.new w 32 #[.int .i64 T, .int .i64 F])
      have W0 := Lib.hid ((Below.refl w.heap.size w).alloc (Nat.le_refl _) (.cells #[.int .i64 T, .int .i64 F] 32))
      go_enter Try.func6, Try.ntmps6
      go_wp2_with fail
      refine (ask_any T F term who ea la eb lb _).mono ?_
      rintro e w1 ⟨rfl, hb⟩
      rw [Hask.out]
      have B1 := Lib.hid ((B0.out.alloc (.cells #[.int .i64 T, .int .i64 F] 39)).below hb (B0.out.alloc (.cells #[.int .i64 T, .int .i64 F] 39)).lt)
      have R1 := Lib.hid ((BlkIs.new (w.alloc (.cells #[.int .i64 T, .int .i64 F] 32)) 39 #[.int .i64 T, .int .i64 F]).below hb (by simp))
      rw [show (w.alloc (.cells #[.int .i64 T, .int .i64 F] 32)).heap.size = w.heap.size + 1 from by simp] at R1
      have W1 := Lib.hid ((W0.out.alloc W0.out.size (.cells #[.int .i64 T, .int .i64 F] 39)).trans (hb.mono (W0.out.alloc W0.out.size (.cells #[.int .i64 T, .int .i64 F] 39)).size))
      clear hb
      have fR0 := R1.out.cell 0; have fR1 := R1.out.cell 1; have lR := R1.out.lt
      simp at fR0 fR1
      go_wp2_with fail
      clear fR0 fR1 lR
      refine (refAsk_any T F term who ea la eb lb _).mono ?_
      rintro e w2 ⟨rfl, hb⟩
      rw [Hask.out]
      have B2 := Lib.hid ((B1.out.alloc (.cells #[.int .i64 xT, .int .i64 xF] 32)).below hb (B1.out.alloc (.cells #[.int .i64 xT, .int .i64 xF] 32)).lt)
      have R2 := Lib.hid ((R1.out.alloc (.cells #[.int .i64 xT, .int .i64 xF] 32)).below hb (R1.out.alloc (.cells #[.int .i64 xT, .int .i64 xF] 32)).lt)
      have X2 := Lib.hid ((BlkIs.new w1 32 #[.int .i64 xT, .int .i64 xF]).below hb (by simp))
      have W2 := Lib.hid ((W1.out.alloc W1.out.size (.cells #[.int .i64 xT, .int .i64 xF] 32)).trans (hb.mono (W1.out.alloc W1.out.size (.cells #[.int .i64 xT, .int .i64 xF] 32)).size))
      clear hb
      have fB0 := B2.out.cell 0; have fB1 := B2.out.cell 1; have lB := B2.out.lt
      simp at fB0 fB1
      go_wp2_with fail
      clear fB0 fB1 lB
      refine (putV_any T F _).mono ?_
      rintro e w3 ⟨rfl, hb⟩
      rw [Hput.out]
      have B3 := Lib.hid ((B2.out.alloc (.cells #[.int .i64 xT, .int .i64 xF] 39)).below hb (B2.out.alloc (.cells #[.int .i64 xT, .int .i64 xF] 39)).lt)
      have R3 := Lib.hid ((R2.out.alloc (.cells #[.int .i64 xT, .int .i64 xF] 39)).below hb (R2.out.alloc (.cells #[.int .i64 xT, .int .i64 xF] 39)).lt)
      have X3 := Lib.hid ((X2.out.alloc (.cells #[.int .i64 xT, .int .i64 xF] 39)).below hb (X2.out.alloc (.cells #[.int .i64 xT, .int .i64 xF] 39)).lt)
      have Y3 := Lib.hid ((BlkIs.new w2 39 #[.int .i64 xT, .int .i64 xF]).below hb (by simp))
      have W3 := Lib.hid ((W2.out.alloc W2.out.size (.cells #[.int .i64 xT, .int .i64 xF] 39)).trans (hb.mono (W2.out.alloc W2.out.size (.cells #[.int .i64 xT, .int .i64 xF] 39)).size))
      clear hb
      have fR0 := R3.out.cell 0; have fR1 := R3.out.cell 1; have lR := R3.out.lt
      simp at fR0 fR1
      go_wp2_with fail
      clear fR0 fR1 lR
      refine (refPutBallot_any T F _).mono ?_
      rintro e w4 ⟨rfl, hb⟩
      rw [Hput.out]
      have B4 := Lib.hid (B3.out.below hb B3.out.lt)
      have R4 := Lib.hid (R3.out.below hb R3.out.lt)
      have X4 := Lib.hid (X3.out.below hb X3.out.lt)
      have Y4 := Lib.hid (Y3.out.below hb Y3.out.lt)
      have W4 := Lib.hid (W3.out.trans (hb.mono W3.out.size))
      clear hb
      go_wp2_with fail
      refine (voteRead_any s _ (by omega)).mono ?_
      rintro e w5 ⟨rfl, hb⟩
      rw [Hread.out]
      have B5 := Lib.hid (B4.out.below hb B4.out.lt)
      have R5 := Lib.hid (R4.out.below hb R4.out.lt)
      have X5 := Lib.hid (X4.out.below hb X4.out.lt)
      have Y5 := Lib.hid (Y4.out.below hb Y4.out.lt)
      have W5 := Lib.hid (W4.out.trans (hb.mono W4.out.size))
      clear hb
      go_wp2_with fail
      refine (refReadBallot_any s _ (by omega)).mono ?_
      rintro e w6 ⟨rfl, hb⟩
      rw [Hread.out]
      have B6 := Lib.hid ((B5.out.alloc (.cells #[.int .i64 uT, .int .i64 uF] 32)).below hb (B5.out.alloc (.cells #[.int .i64 uT, .int .i64 uF] 32)).lt)
      have R6 := Lib.hid ((R5.out.alloc (.cells #[.int .i64 uT, .int .i64 uF] 32)).below hb (R5.out.alloc (.cells #[.int .i64 uT, .int .i64 uF] 32)).lt)
      have X6 := Lib.hid ((X5.out.alloc (.cells #[.int .i64 uT, .int .i64 uF] 32)).below hb (X5.out.alloc (.cells #[.int .i64 uT, .int .i64 uF] 32)).lt)
      have Y6 := Lib.hid ((Y5.out.alloc (.cells #[.int .i64 uT, .int .i64 uF] 32)).below hb (Y5.out.alloc (.cells #[.int .i64 uT, .int .i64 uF] 32)).lt)
      have U6 := Lib.hid ((BlkIs.new w5 32 #[.int .i64 uT, .int .i64 uF]).below hb (by simp))
      have W6 := Lib.hid ((W5.out.alloc W5.out.size (.cells #[.int .i64 uT, .int .i64 uF] 32)).trans (hb.mono (W5.out.alloc W5.out.size (.cells #[.int .i64 uT, .int .i64 uF] 32)).size))
      clear hb
      go_wp2_with fail
      have hrw := (Hr.out.below (W6.out.alloc W6.out.size (.cells #[.int .i64 uT, .int .i64 uF] 39)))
      refine (lentInts_any w.heap.size n cap A zs _ hrw (by have := (W6.out.alloc W6.out.size (.cells #[.int .i64 uT, .int .i64 uF] 39)).size; exact this) (by omega) hnc).mono ?_
      rintro e w7 ⟨gl, cl, rfl, hcl, hol, hb⟩
      have B7 := Lib.hid ((B6.out.alloc (.cells #[.int .i64 uT, .int .i64 uF] 39)).below hb (B6.out.alloc (.cells #[.int .i64 uT, .int .i64 uF] 39)).lt)
      have R7 := Lib.hid ((R6.out.alloc (.cells #[.int .i64 uT, .int .i64 uF] 39)).below hb (R6.out.alloc (.cells #[.int .i64 uT, .int .i64 uF] 39)).lt)
      have X7 := Lib.hid ((X6.out.alloc (.cells #[.int .i64 uT, .int .i64 uF] 39)).below hb (X6.out.alloc (.cells #[.int .i64 uT, .int .i64 uF] 39)).lt)
      have Y7 := Lib.hid ((Y6.out.alloc (.cells #[.int .i64 uT, .int .i64 uF] 39)).below hb (Y6.out.alloc (.cells #[.int .i64 uT, .int .i64 uF] 39)).lt)
      have U7 := Lib.hid ((U6.out.alloc (.cells #[.int .i64 uT, .int .i64 uF] 39)).below hb (U6.out.alloc (.cells #[.int .i64 uT, .int .i64 uF] 39)).lt)
      have V7 := Lib.hid ((BlkIs.new w6 39 #[.int .i64 uT, .int .i64 uF]).below hb (by simp))
      have W7 := Lib.hid ((W6.out.alloc W6.out.size (.cells #[.int .i64 uT, .int .i64 uF] 39)).trans (hb.mono (W6.out.alloc W6.out.size (.cells #[.int .i64 uT, .int .i64 uF] 39)).size))
      clear hb
      have Hol := Lib.hid hol; clear hol hrw
      have hS0 : ∀ wx, Below w7.heap.size w7 wx → wx.cell? ⟨w.heap.size, 0, none⟩ = some (.int .i64 T) ∧ wx.cell? ⟨w.heap.size, 1, none⟩ = some (.int .i64 F) ∧ wx.cell? ⟨w.heap.size + 1, 0, none⟩ = some (.int .i64 T) ∧ wx.cell? ⟨w.heap.size + 1, 1, none⟩ = some (.int .i64 F) ∧ wx.cell? ⟨w1.heap.size, 0, none⟩ = some (.int .i64 xT) ∧ wx.cell? ⟨w1.heap.size, 1, none⟩ = some (.int .i64 xF) ∧ wx.cell? ⟨w2.heap.size, 0, none⟩ = some (.int .i64 xT) ∧ wx.cell? ⟨w2.heap.size, 1, none⟩ = some (.int .i64 xF) ∧ wx.cell? ⟨w5.heap.size, 0, none⟩ = some (.int .i64 uT) ∧ wx.cell? ⟨w5.heap.size, 1, none⟩ = some (.int .i64 uF) ∧ wx.cell? ⟨w6.heap.size, 0, none⟩ = some (.int .i64 uT) ∧ wx.cell? ⟨w6.heap.size, 1, none⟩ = some (.int .i64 uF) := by
        intro wx h
        have fc : ∀ {g : Nat} {t : TypeId} {a b : Int}, BlkIs w7 g t #[.int .i64 a, .int .i64 b] → wx.cell? ⟨g, 0, none⟩ = some (.int .i64 a) ∧ wx.cell? ⟨g, 1, none⟩ = some (.int .i64 b) := fun {g t a b} hB => ⟨(hB.below h hB.lt).cell 0, (hB.below h hB.lt).cell 1⟩
        exact ⟨(fc B7.out).1, (fc B7.out).2, (fc R7.out).1, (fc R7.out).2, (fc X7.out).1, (fc X7.out).2, (fc Y7.out).1, (fc Y7.out).2, (fc U7.out).1, (fc U7.out).2, (fc V7.out).1, (fc V7.out).2⟩
      have HS := Lib.hid hS0; clear hS0
      have HL : Hid (∀ wx, Below w7.heap.size w7 wx → SlR wx w7.heap.size 1 (some ⟨gl, 0, none⟩) n (intVs zs)) := Lib.hid (fun wx h => by
        have h1 := (SlR.own Hol.out).first (show n ≤ n + 1 by omega)
        have hl : zs.length = n := intVs_len Hr.out
        rw [intVs, List.map_append, Nat.mul_one, List.take_left' (by simpa using hl)] at h1
        exact SlR.below h1 h)
      have HR2 : Hid (∀ wx, Below w7.heap.size w7 wx → SlR wx w.heap.size 1 A n (intVs zs)) := Lib.hid (fun wx h => (Hr.out.below W7.out).below (h.mono W7.out.size))
      have HO2 : Hid (∀ wx, Below w7.heap.size w7 wx → wx.ownsRow w6.heap.size.succ 3 1 (.slice (some ⟨gl, 0, none⟩) (n + 1) cl) (n + 1) (intVs (zs ++ [-77]))) := Lib.hid (fun wx h => own_below (by have := Hol.out; simpa using this) h (fun q hq => (Hol.out.lt q hq).2))
      have HB : Below w7.heap.size w7 w7 := Below.refl _ _
      have hS := HS.out _ HB
      go_wp2_with fail
      simp only [List.append_eq, List.cons_append, List.nil_append]
      go_region_held3 (fun wx => wx.cell? ⟨w.heap.size, 0, none⟩ = some (.int .i64 T) ∧ wx.cell? ⟨w.heap.size, 1, none⟩ = some (.int .i64 F) ∧ wx.cell? ⟨w.heap.size + 1, 0, none⟩ = some (.int .i64 T) ∧ wx.cell? ⟨w.heap.size + 1, 1, none⟩ = some (.int .i64 F) ∧ wx.cell? ⟨w1.heap.size, 0, none⟩ = some (.int .i64 xT) ∧ wx.cell? ⟨w1.heap.size, 1, none⟩ = some (.int .i64 xF) ∧ wx.cell? ⟨w2.heap.size, 0, none⟩ = some (.int .i64 xT) ∧ wx.cell? ⟨w2.heap.size, 1, none⟩ = some (.int .i64 xF) ∧ wx.cell? ⟨w5.heap.size, 0, none⟩ = some (.int .i64 uT) ∧ wx.cell? ⟨w5.heap.size, 1, none⟩ = some (.int .i64 uF) ∧ wx.cell? ⟨w6.heap.size, 0, none⟩ = some (.int .i64 uT) ∧ wx.cell? ⟨w6.heap.size, 1, none⟩ = some (.int .i64 uF)) (first | exact hS | go_keep) ((first
        | (go_at_call 9; refine (alive21_any _).mono ?_; rintro e wx ⟨rfl, hb⟩; have HB := HB.trans ((by first | exact hb | exact below_undrew hb : Below _ _ _).mono HB.size); have hS := HS.out _ HB)
        | (go_at_call 18; refine (same_eq _ _ _).mono ?_; rintro e wx ⟨rfl, hb⟩; have HB := HB.trans ((by first | exact hb | exact below_undrew hb : Below _ _ _).mono HB.size); have hS := HS.out _ HB)
        | (go_at_call 19; refine (see_any T F term _).mono ?_; rintro e wx ⟨rfl, hb⟩; rw [Hsee.out]; have HB := HB.trans ((by first | exact hb | exact below_undrew hb : Below _ _ _).mono HB.size); have hS := HS.out _ HB)
        | (go_at_call 20; refine (refSee_any T F term _).mono ?_; rintro e wx ⟨rfl, hb⟩; rw [Hsee.out]; have HB := HB.trans ((by first | exact hb | exact below_undrew hb : Below _ _ _).mono HB.size); have hS := HS.out _ HB)
        | (go_at_call 21; refine (stand_any T F who _ HT.out).mono ?_; rintro e wx ⟨rfl, hb⟩; rw [Hstand.out]; have HB := HB.trans ((by first | exact hb | exact below_undrew hb : Below _ _ _).mono HB.size); have hS := HS.out _ HB)
        | (go_at_call 22; refine (refStand_any T F who _ HT.out).mono ?_; rintro e wx ⟨rfl, hb⟩; rw [Hstand.out]; have HB := HB.trans ((by first | exact hb | exact below_undrew hb : Below _ _ _).mono HB.size); have hS := HS.out _ HB)
        | (go_at_call 10; refine (newer_any ea la eb lb _).mono ?_; rintro e wx ⟨rfl, rfl⟩; rw [Hnw.out]; skip)
        | (go_at_call 23; refine (refNewer_any ea la eb lb _).mono ?_; rintro e wx ⟨rfl, rfl⟩; rw [Hnw.out]; skip)
        | (go_at_call 8; refine (maj_any w7.heap.size n cl (some ⟨gl, 0, none⟩) nodes zs _ (HL.out _ HB) HB.size (by omega) Hwf.out HNO.out).mono ?_; rintro e wx ⟨rfl, hb⟩; rw [Hmj.out]; have HB := HB.trans ((by first | exact hb | exact below_undrew hb : Below _ _ _).mono HB.size); have hS := HS.out _ HB)
        | (go_at_call 24; refine (refMaj_any nodes A n cap w.heap.size zs _ (HR2.out _ HB) (by omega) HNO.out).mono ?_; rintro e wx ⟨rfl, kq, rfl⟩; rw [Hmj.out]; have HB := below_drewN HB kq; (try rw [World.drewN_drewN] at HB); have hS := HS.out _ HB)
        | (go_at_call 25; refine (staysInts_any 0 w.heap.size n n cl cap gl A zs zs _ _ (HO2.out _ HB) (HR2.out _ HB) (by omega) (by omega) rfl).mono ?_; rintro e wx ⟨rfl, kq, rfl⟩; have HB := below_drewN HB kq; (try rw [World.drewN_drewN] at HB); have hS := HS.out _ HB)))
      all_goals
        go_wp2_with fail
        go_ret
        exact ⟨rfl, W7.out.trans ((by first | exact HB | exact below_drewN HB 1 : Below _ _ _).mono W7.out.size)⟩
    · have t' : 1000 < s.size := by omega
      clear t1
      clear hr hwf
      go_enter Try.func6, Try.ntmps6
      go_wp2_with fail
      refine (alive21_any _).mono ?_
      rintro e w1 ⟨rfl, hb1⟩
      go_wp2_with fail
      go_ret
      exact ⟨rfl, ((Below.refl _ _).alloc (Nat.le_refl _) _).trans (hb1.mono (by simp))⟩
  · have t' : 40 < n := by omega
    clear t0
    clear hr hwf
    go_enter Try.func6, Try.ntmps6
    go_wp2_with fail
    refine (alive21_any _).mono ?_
    rintro e w1 ⟨rfl, hb1⟩
    go_wp2_with fail
    go_ret
    exact ⟨rfl, ((Below.refl _ _).alloc (Nat.le_refl _) _).trans (hb1.mono (by simp))⟩
end Go.Proofs.Ytbcbjibbeieaiaa
