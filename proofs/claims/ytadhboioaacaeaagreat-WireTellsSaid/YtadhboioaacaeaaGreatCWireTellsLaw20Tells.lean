/- chapter 20: WireTells, walked. -/
import Derived.Test.YtadhboioaacaeaaGreatJWireTells2
import Derived.Test.YtadhboioaacaeaaGreatCWireTellsWireSame
import Derived.Test.YtadhboioaacaeaaGreatCWireTellsApartT
import Derived.Deep.RegionHeld3

namespace Go.Proofs.YtadhboioaacaeaaGreat
open Go.RowKit
set_option maxHeartbeats 4000000
set_option maxRecDepth 100000
set_option linter.unusedVariables false

theorem BlkIs.same {w w' : World} {g : Nat} {t : TypeId} {cs : Array Value} (h : BlkIs w g t cs) (hs : w'.heap[g]? = w.heap[g]?) : BlkIs w' g t cs := hs.trans h
theorem own_same {w w' : World} {base n c : Nat} {e : TypeId} {v : Value} {xs : List Value} (h : w.ownsRow base e c v n xs) (hs : ∀ b, v.ownBlock = some b → w'.heap[b]? = w.heap[b]?) : w'.ownsRow base e c v n xs := by
  refine ⟨h.1, ?_⟩
  rcases h.2 with h0 | ⟨g', cap, cur, hv, hbg, hh, rest⟩
  · exact .inl h0
  · exact .inr ⟨g', cap, cur, hv, hbg, (hs g' (by rw [hv]; rfl)).trans hh, rest⟩
theorem own_ne_own {w : World} {b1 b2 n m : Nat} {e1 e2 : TypeId} {v u : Value} {xs ys : List Value} (h : w.ownsRow b1 e1 1 v n xs) (h2 : w.ownsRow b2 e2 1 u m ys) (hne : e1 ≠ e2) : ∀ b, v.ownBlock = some b → u.ownBlock ≠ some b := fun b hb => rows_apart h h2 hne b hb

/-- what the law holds of a world in a round: the message's block, its copy, the row that was lent, the entries -/
structure MsgAt (w : World) (gM gX gl n cl B : Nat) (A : Option Addr) (k t l e c : Int) (ok : Bool) (es : List ByteArray) (v : Value) : Prop where
  bm : BlkIs w gM 24 #[.int .i64 k, .int .i64 t, .int .i64 l, .int .i64 e, .int .i64 c, .bool ok, v]
  bx : BlkIs w gX 24 #[.int .i64 k, .int .i64 t, .int .i64 l, .int .i64 e, .int .i64 c, .bool ok, .slice (some ⟨gl, 0, none⟩) n cl]
  o : w.ownsRow (gX + 1) 9 1 (.slice (some ⟨gl, 0, none⟩) (n + 1) cl) (n + 1) (strVs (es ++ [markS]))
  r : SlR w B 1 A n (strVs es)
  lt : B ≤ w.heap.size
theorem MsgAt.below {w w' : World} {gM gX gl n cl B : Nat} {A : Option Addr} {k t l e c : Int} {ok : Bool} {es : List ByteArray} {v : Value} (h : MsgAt w gM gX gl n cl B A k t l e c ok es v) (hb : Below w.heap.size w w') : MsgAt w' gM gX gl n cl B A k t l e c ok es v :=
  ⟨h.bm.below hb h.bm.lt, h.bx.below hb h.bx.lt, own_below h.o hb (fun q hq => (h.o.lt q hq).2), h.r.below (hb.mono h.lt), Nat.le_trans h.lt hb.size⟩

theorem getW_changed (m : WMsg) (l : List UInt8) (h : l = sum4 (msgL m) ++ msgL m) (p : Nat) (hp : p < l.length) (d : UInt8) (hd : d ≠ 0) : getW (l.set p (l[p] ^^^ d)) = (.none, 7) := by
  have h1 := xor_ne l[p] d hd
  subst h
  unfold getW
  rw [openL_changed (msgL m) p hp _ h1]
  rfl
theorem rdTexts_few : ∀ (n : Nat) (bs : List UInt8) (x : Int), (rdTexts n bs x).1.length ≤ n
  | 0, bs, x => by simp [rdTexts]
  | n + 1, bs, x => by
    rw [rdTexts]
    split
    · have := rdTexts_few n (inText 4000 bs 0).2.1 (inText 4000 bs 0).2.2
      simp only [List.length_cons]
      omega
    · simp
theorem getW_few (b : List UInt8) : (getW b).1.es.length ≤ 100000 := by
  unfold getW
  split
  · simp [WMsg.none]
  · split
    · simp [WMsg.none]
    · have h6 : ∀ (bs : List UInt8) (x : Int), beVal (inTake 1 bs x).1 ≤ 100000 := fun bs x => by have := inNum_lt 1 bs x; unfold inNum at this; omega
      unfold readW
      dsimp only
      exact Nat.le_trans (rdTexts_few _ _ _) (h6 _ _)

theorem wireTells_any (k0 t l e c : Int) (ok : Bool) (A : Option Addr) (n cap : Nat) (es : List ByteArray) (b : ByteArray) (at_ by_ : Int) (w : World) (hl : es.length = n) (hr : SlR w w.heap.size 1 A n (strVs es))
    (hs : ∀ s ∈ es, s.size ≤ 9223372036854775807) (hnc : n ≤ cap) (hcm : cap ≤ 9223372036854775807) (hb : b.size ≤ 9223372036854775807) (hat : at_ ≤ 9223372036854775807) :
    Calls Tryz.prog 3 #[.agg #[.int .i64 k0, .int .i64 t, .int .i64 l, .int .i64 e, .int .i64 c, .bool ok, .slice A n cap], .string b, .int .i64 at_, .int .i64 by_] w fun e w' => e = .returned (.bool true) ∧ Below w.heap.size w w' := by
  obtain ⟨w0, hw0⟩ : ∃ w0, w.alloc (.cells #[.int .i64 k0, .int .i64 t, .int .i64 l, .int .i64 e, .int .i64 c, .bool ok, .slice A n cap] 24) = w0 := ⟨_, rfl⟩
  have hb0 : Below w.heap.size w w0 := by rw [← hw0]; exact (Below.refl w.heap.size w).alloc (Nat.le_refl _) _
  have hM0 : BlkIs w0 w.heap.size 24 #[.int .i64 k0, .int .i64 t, .int .i64 l, .int .i64 e, .int .i64 c, .bool ok, .slice A n cap] := by rw [← hw0]; exact BlkIs.new _ _ _
  have hr0 := hr.below hb0
  have hsh := short_any 10 20000 n cap w.heap.size A es w0 hr0 hb0.size (by omega) hs (by omega) (by omega)
  have hc0 := hM0.cell; have hf0 := hM0.free
  have Hsh := Lib.hid hsh; have Hw0 := Lib.hid hw0; have Hb0 := Lib.hid hb0; have HM0 := Lib.hid hM0; have Hr0 := Lib.hid hr0; have Hs := Lib.hid hs
  clear hsh hw0 hb0 hM0 hr0 hr
  cases hc : shortB 10 20000 es with
  | false =>
    as_aux_lemma =>
    have Hc := Lib.hid hc; clear hc
    go_enter Tryz.func3, Tryz.ntmps3
    go_wp2_with fail
    rw [Hw0.out]
    go_wp2_with fail
    refine Hsh.out.mono ?_
    rintro e w1 ⟨rfl, hb1⟩
    rw [Hc.out]
    go_wp2_with fail
    refine (alive20_any _).mono ?_
    rintro e w2 ⟨rfl, hb2⟩
    go_wp2_with fail
    go_ret
    have hb1' := Hb0.out.trans (hb1.mono Hb0.out.size)
    exact ⟨rfl, hb1'.trans (hb2.mono hb1'.size)⟩
  | true =>
    have hfew : n ≤ 10 ∧ bytesOf es ≤ 20000 := by unfold shortB at hc; rw [decide_eq_true_iff] at hc; omega
    obtain ⟨hf1, hf2⟩ := hfew
    have Hc := Lib.hid hc; clear hc
    by_cases t1 : b.size ≤ 6000
    · by_cases t2 : 0 ≤ at_
      · skip
        go_enter Tryz.func3, Tryz.ntmps3
        go_wp2_with fail
        rw [Hw0.out]
        go_wp2_with fail
        refine Hsh.out.mono ?_
        rintro e w1 ⟨rfl, hb1⟩
        rw [Hc.out]
        go_wp2_with fail
        have gB : w0.heap.size ≤ w1.heap.size := hb1.size
        have gW : w.heap.size < w0.heap.size := HM0.out.lt
        have hM1 := HM0.out.below hb1 HM0.out.lt
        have hr1 := Hr0.out.below (hb1.mono Hb0.out.size)
        have hb01 := Hb0.out.trans (hb1.mono Hb0.out.size)
        have hBk : BlkIs (w1.alloc (.cells (bookCs (.slice none 0 0) (.slice none 0 0)) 35)) w1.heap.size 35 (bookCs (.slice none 0 0) (.slice none 0 0)) := BlkIs.new _ _ _
        unfold bookCs at hBk
        have hM2 := hM1.alloc (.cells (bookCs (.slice none 0 0) (.slice none 0 0)) 35)
        have hr2 := hr1.alloc (Nat.le_trans Hb0.out.size hb1.size) (.cells (bookCs (.slice none 0 0) (.slice none 0 0)) 35)
        have hb02 := hb01.alloc hb01.size (.cells (bookCs (.slice none 0 0) (.slice none 0 0)) 35)
        unfold bookCs at hM2 hr2 hb02
        have HBk := Lib.hid hBk; have HM2 := Lib.hid hM2; have Hr2 := Lib.hid hr2; have Hb02 := Lib.hid hb02
        clear hBk hM2 hr2 hb02 hM1 hr1 hb01 hb1 hc0 hf0 Hsh
        -- what the functions say
        obtain ⟨P, hP⟩ : ∃ P, putW ⟨k0, t, l, e, c, ok, es⟩ = P := ⟨_, rfl⟩
        have hput := fun (A : Option Addr) (n cap B : Nat) (w : World) (hr : SlR w B 1 A n (strVs es)) (hB : B ≤ w.heap.size) (hn : n ≤ 10) => wirePut_any k0 t l e c ok A n cap B es w hr hB (by omega) Hs.out
        have hput2 := fun (A : Option Addr) (n cap B : Nat) (w : World) (hr : SlR w B 1 A n (strVs es)) (hB : B ≤ w.heap.size) (hn : n ≤ 10) => refWirePut_any k0 t l e c ok A n cap B es w hr hB (by omega) Hs.out
        rw [hP] at hput hput2
        have hget := fun w => wireGet_any b w (by omega)
        have hget2 := fun w => refWireGet_any b w (by omega)
        have hgf : (getW b.data.toList).1.es.length ≤ 100000 := getW_few _
        obtain ⟨⟨⟨yk, yt, yl, ye, yc, yo, ys⟩, yx⟩, hG⟩ : ∃ G, getW b.data.toList = G := ⟨_, rfl⟩
        rw [hG] at hget hget2 hgf
        dsimp only at hget hget2 hgf
        have Hput := Lib.hid hput; have Hput2 := Lib.hid hput2; have Hget := Lib.hid hget; have Hget2 := Lib.hid hget2; have HP := Lib.hid hP
        clear hput hput2 hget hget2 hP hG
        go_wp2_with fail
        go_loopw [10] (fun i wr => ∃ (k : Nat) (tv wv : Value) (vs ws : List Value) (xss : List (List Value)), k ≤ 2 ∧ i = .int .i64 k ∧ BlkIs wr w1.heap.size 35 (bookCs tv wv) ∧ KindT wr (w1.heap.size + 1) tv wv vs ws xss ∧ vs.length = k ∧ w1.heap.size + 1 ≤ wr.heap.size ∧ SlR wr w.heap.size 1 A n (strVs es) ∧
          BlkIs wr w.heap.size 24 #[.int .i64 k0, .int .i64 t, .int .i64 l, .int .i64 e, .int .i64 c, .bool ok, .slice A n cap] ∧ Below w.heap.size w wr) (fun i _ => 2 - (intOf i).toNat)
        case atStart => exact ⟨0, _, _, [], [], [], by omega, rfl, HBk.out, KindT.nil _ _, rfl, by simp, Hr2.out, HM2.out, Hb02.out⟩
        case round =>
          obtain ⟨k, tv, wv, vs, ws, xss, hk, rfl, hB, hK, hvl, hsz, hrr, hMr, hb⟩ := hrel
          by_cases hlt : k < 2
          · have i1 : (k : Int) < 2 := by omega
            have HB := Lib.hid hB; have HK := Lib.hid hK; have Hvl := Lib.hid hvl; have Hrr := Lib.hid hrr; have HMr := Lib.hid hMr; have Hb := Lib.hid hb
            have hcM := hMr.cell; have hlM := hMr.lt
            clear hB hK hvl hrr hMr hb
            have hx0 := BlkIs.new wr 24 #[.int .i64 k0, .int .i64 t, .int .i64 l, .int .i64 e, .int .i64 c, .bool ok, .slice A n cap]
            have hma := HMr.out.alloc (.cells #[.int .i64 k0, .int .i64 t, .int .i64 l, .int .i64 e, .int .i64 c, .bool ok, .slice A n cap] 24)
            have hba : Below wr.heap.size wr (wr.alloc (.cells #[.int .i64 k0, .int .i64 t, .int .i64 l, .int .i64 e, .int .i64 c, .bool ok, .slice A n cap] 24)) := (Below.refl _ _).alloc (Nat.le_refl _) _
            have hra := Hrr.out.below (hba.mono (Nat.le_of_lt hlM))
            have Hx0 := Lib.hid hx0; have Hma := Lib.hid hma; have Hba := Lib.hid hba; have Hra := Lib.hid hra
            clear hx0 hma hba hra
            go_wp2_with fail
            refine (lentTexts_any w.heap.size n cap A es _ Hra.out (by simp; omega) (by omega) hnc).mono ?_
            rintro x w2 ⟨gl, cl, rfl, hcl, hown2, hb2⟩
            have hsa : (wr.alloc (.cells #[.int .i64 k0, .int .i64 t, .int .i64 l, .int .i64 e, .int .i64 c, .bool ok, .slice A n cap] 24)).heap.size = wr.heap.size + 1 := by simp
            rw [hsa] at hown2
            have hx2 := Hx0.out.below hb2 Hx0.out.lt
            have hm2 := Hma.out.below hb2 Hma.out.lt
            have hbw2 : Below wr.heap.size wr w2 := Hba.out.trans (hb2.mono (by rw [hsa]; omega))
            have hr2 := Hrr.out.below (hbw2.mono (Nat.le_of_lt hlM))
            obtain ⟨w3, hw3⟩ : ∃ w3, w2.setCell ⟨wr.heap.size, 6, none⟩ (.slice (some ⟨gl, 0, none⟩) n cl) = w3 := ⟨_, rfl⟩
            have hbw3 : Below wr.heap.size wr w3 := by rw [← hw3]; exact hbw2.setCell (p := ⟨wr.heap.size, 6, none⟩) (Nat.le_refl _) _
            have hx3 : BlkIs w3 wr.heap.size 24 #[.int .i64 k0, .int .i64 t, .int .i64 l, .int .i64 e, .int .i64 c, .bool ok, .slice (some ⟨gl, 0, none⟩) n cl] := by rw [← hw3]; exact hx2.put 6 _
            have ho3 : w3.ownsRow (wr.heap.size + 1) 9 1 (.slice (some ⟨gl, 0, none⟩) (n + 1) cl) (n + 1) (strVs (es ++ [markS])) := by rw [← hw3]; exact own_far hown2 (fun h => by have := (hown2.lt _ h).1; simp at this; omega) _
            have hm3 : MsgAt w3 w.heap.size wr.heap.size gl n cl w.heap.size A k0 t l e c ok es (.slice A n cap) := ⟨HMr.out.below hbw3 hlM, hx3, ho3, Hrr.out.below (hbw3.mono (Nat.le_of_lt hlM)), Nat.le_trans (Nat.le_of_lt hlM) hbw3.size⟩
            have hsl3 := own_first ho3 (show n ≤ n + 1 by omega)
            rw [strVs, List.map_append, List.take_left' (by rw [List.length_map]; exact hl)] at hsl3
            have hc2 := hx2.cell; have hfr2 := hx2.free; have hl2 := hx2.lt
            have hc3 := hx3.cell
            have Hw3 := Lib.hid hw3; have Hm3 := Lib.hid hm3; have Hbw3 := Lib.hid hbw3; have Hsl3 := Lib.hid hsl3
            clear hsa hown2 hx2 hm2 hbw2 hr2 hbw3 hx3 ho3 hm3 hsl3 hb2 hcM Hx0 Hma Hba Hra
            go_wp2_with fail
            clear hc2 hfr2 hl2 hc3 hw3
            refine (Hput.out (some ⟨gl, 0, none⟩) n cl _ w3 Hsl3.out (Nat.le_refl _) hf1).mono ?_
            rintro x w4 ⟨rfl, hb4⟩
            have hm4 := Hm3.out.below hb4
            have hc4 := hm4.bm.cell
            have Hm4 := Lib.hid hm4; have Hb4 := Lib.hid hb4
            clear hm4 hb4
            go_wp2_with fail
            clear hc4
            refine (plain_any k0 t l e c ok A n cap w4).mono ?_
            rintro x w5 ⟨rfl, hb5⟩
            have hm5 := Hm4.out.below hb5
            have hb35 := Hb4.out.trans (hb5.mono Hb4.out.size)
            have Hm5 := Lib.hid hm5; have Hb5 := Lib.hid hb35
            clear hm5 hb5 hb35 Hm4 Hb4
            go_wp2_with fail
            refine (Hput2.out A n cap w.heap.size w5 Hm5.out.r Hm5.out.lt hf1).mono ?_
            rintro x w6 ⟨rfl, hb6⟩
            have hm6 := Hm5.out.below hb6
            have hb36 := Hb5.out.trans (hb6.mono Hb5.out.size)
            have Hm6 := Lib.hid hm6; have Hb6 := Lib.hid hb36
            clear hm6 hb6 hb36 Hm5 Hb5
            go_wp2_with fail
            refine (Hget.out w6).mono ?_
            rintro x w7 ⟨Ay, ny, cy, rfl, hoy, hb7⟩
            obtain ⟨wy, hwy⟩ : ∃ wy, w7.alloc (.cells #[.int .i64 yk, .int .i64 yt, .int .i64 yl, .int .i64 ye, .int .i64 yc, .bool yo, .slice Ay ny cy] 24) = wy := ⟨_, rfl⟩
            have hby : Below w6.heap.size w6 wy := by rw [← hwy]; exact hb7.alloc hb7.size _
            have hYy : BlkIs wy w7.heap.size 24 #[.int .i64 yk, .int .i64 yt, .int .i64 yl, .int .i64 ye, .int .i64 yc, .bool yo, .slice Ay ny cy] := by rw [← hwy]; exact BlkIs.new _ _ _
            have hoy2 : wy.ownsRow w6.heap.size 9 1 (.slice Ay ny cy) ny (strVs ys) := by rw [← hwy]; exact hoy.alloc _
            have hmy := Hm6.out.below hby
            have hb3y := Hb6.out.trans (hby.mono Hb6.out.size)
            have g67 : w6.heap.size ≤ w7.heap.size := hb7.size
            have g6y : w6.heap.size ≤ wy.heap.size := hby.size
            have Hmy := Lib.hid hmy; have Hby := Lib.hid hb3y; have HYy := Lib.hid hYy; have Hoy := Lib.hid hoy2
            clear hmy hby hb7 hb3y hYy hoy hoy2 Hm6
            go_wp2_with fail
            refine (Hget2.out wy).mono ?_
            rintro x w8 ⟨Az, nz, cz, rfl, hoz, hb8⟩
            obtain ⟨wz, hwz⟩ : ∃ wz, w8.alloc (.cells #[.int .i64 yk, .int .i64 yt, .int .i64 yl, .int .i64 ye, .int .i64 yc, .bool yo, .slice Az nz cz] 41) = wz := ⟨_, rfl⟩
            have hbz : Below wy.heap.size wy wz := by rw [← hwz]; exact hb8.alloc hb8.size _
            have hZz : BlkIs wz w8.heap.size 41 #[.int .i64 yk, .int .i64 yt, .int .i64 yl, .int .i64 ye, .int .i64 yc, .bool yo, .slice Az nz cz] := by rw [← hwz]; exact BlkIs.new _ _ _
            have hoz2 : wz.ownsRow wy.heap.size 9 1 (.slice Az nz cz) nz (strVs ys) := by rw [← hwz]; exact hoz.alloc _
            have hmz := Hmy.out.below hbz
            have hb3z := Hby.out.trans (hbz.mono Hby.out.size)
            have hYz := HYy.out.below hbz HYy.out.lt
            have hoyz := own_below Hoy.out hbz (fun q hq => (Hoy.out.lt q hq).2)
            have g78 : w7.heap.size < w8.heap.size := Nat.lt_of_lt_of_le HYy.out.lt hb8.size
            have hcY := hYz.cell
            have Hmz := Lib.hid hmz; have Hbz := Lib.hid hb3z; have HYz := Lib.hid hYz; have Hoyz := Lib.hid hoyz; have HZz := Lib.hid hZz; have Hoz := Lib.hid hoz2
            clear hmz hbz hb8 hb3z hYz hoz hoz2 hZz hoyz Hmy Hby HYy Hoy
            go_wp2_with fail
            have hbrz : Below wr.heap.size wr wz := Hbw3.out.trans (Hbz.out.mono Hbw3.out.size)
            have hszz : w1.heap.size + 1 ≤ wz.heap.size := Nat.le_trans hsz hbrz.size
            have gr6 : wr.heap.size ≤ w6.heap.size := Nat.le_trans Hbw3.out.size Hb6.out.size
            have hap9 : ∀ (i : Nat) (u : Value) (b : Nat), vs[i]? = some u → (Value.slice Ay ny cy).ownBlock = some b → u.ownBlock ≠ some b := fun i u b hu hb2 e => by
              have h1 := (HK.out.lv.lt hu e).2
              have h2 := (Hoyz.out.lt b hb2).1
              omega
            have hny : ys.length = ny := by have := Hoyz.out.1; simpa [strVs] using this
            have hbk := bookTexts_any w1.heap.size (w1.heap.size + 1) ny (bookCs tv wv) tv wv (.slice Ay ny cy) vs ws xss (strVs ys) wz (HB.out.below hbrz HB.out.lt) rfl rfl (by omega) hszz (HK.out.below hbrz (Nat.le_refl _)) (own_base Hoyz.out (by omega)) hap9 (by rw [Hvl.out]; omega) ⟨ys, rfl⟩ (by omega)
            have Hbk := Lib.hid hbk; have Hbrz := Lib.hid hbrz
            have hxl : xss.length = k := by have := HK.out.lv.len; have := Hvl.out; omega
            have Hxl := Lib.hid hxl
            clear hbk hbrz hap9 hxl hcY
            refine Hbk.out.mono ?_
            rintro x w9 ⟨tv', wv', v2, rfl, hB9, hK9, hbb9, hst9⟩
            rw [bookCs_set] at hB9
            have hkeep : ∀ b, wr.heap.size ≤ b → b < wz.heap.size → w9.heap[b]? = wz.heap[b]? := fun b h1 h2 => hst9 b h2 (by omega) (fun e => by have := (HK.out.rt.lt b e).2; omega) (fun e => by have := (HK.out.rw.lt b e).2; omega)
            have gWr : w.heap.size < wr.heap.size := hlM
            have gzW : w.heap.size < wz.heap.size := Nat.lt_of_lt_of_le gWr Hbrz.out.size
            have hm9 : MsgAt w9 w.heap.size wr.heap.size gl n cl w.heap.size A k0 t l e c ok es (.slice A n cap) := ⟨Hmz.out.bm.same (hbb9.block _ (by omega) (by omega)), Hmz.out.bx.same (hkeep _ (Nat.le_refl _) Hmz.out.bx.lt), own_same Hmz.out.o (fun b hb => hkeep b (by have := (Hmz.out.o.lt b hb).1; omega) (Hmz.out.o.lt b hb).2), Hmz.out.r.below (hbb9.below (by omega) (by omega)), Nat.le_trans Hmz.out.lt hbb9.size⟩
            have hY9 := HYz.out.same (hkeep _ (by omega) HYz.out.lt)
            have hZ9 := HZz.out.same (hkeep _ (by omega) HZz.out.lt)
            have hoz9 := own_same Hoz.out (fun b hb => hkeep b (by have := (Hoz.out.lt b hb).1; omega) (Hoz.out.lt b hb).2)
            have hs1 : Shows w9 1 (.slice Ay ny cy) (strVs ys) := hK9.lv.shows (k := k) (by rw [List.getElem?_append_right (by rw [Hvl.out]; exact Nat.le_refl _), Hvl.out, Nat.sub_self]; rfl) (by rw [List.getElem?_append_right (by rw [Hxl.out]; exact Nat.le_refl _), Hxl.out, Nat.sub_self]; rfl)
            have hs2 : Shows w9 1 (.slice Az nz cz) (strVs ys) := Shows.own hoz9
            have hbr9 : Below w.heap.size wr w9 := (Hbrz.out.mono (Nat.le_of_lt gWr)).trans (hbb9.below (by omega) (by omega))
            have hsz9 : w1.heap.size + 1 ≤ w9.heap.size := Nat.le_trans hszz hbb9.size
            have hb09 := Hb.out.trans hbr9
            have hvl9 : (vs ++ [Value.slice Ay ny cy]).length = k + 1 := by rw [List.length_append, Hvl.out]; rfl
            have hcy := hY9.cell; have hcz := hZ9.cell
            have g9 : wz.heap.size ≤ w9.heap.size := hbb9.size
            have HB9 := Lib.hid hB9; have HK9 := Lib.hid hK9; have Hm9 := Lib.hid hm9; have Hs1 := Lib.hid hs1; have Hs2 := Lib.hid hs2; have Hb09 := Lib.hid hb09; have Hvl9 := Lib.hid hvl9
            clear hB9 hK9 hm9 hY9 hZ9 hoz9 hs1 hs2 hbr9 hb09 hvl9 hkeep hbb9 hst9 Hbk HYz HZz Hoz Hoyz
            have hmf : ∀ wx, Below w9.heap.size w9 wx → MsgAt wx w.heap.size wr.heap.size gl n cl w.heap.size A k0 t l e c ok es (.slice A n cap) ∧ BlkIs wx w1.heap.size 35 (bookCs tv' wv') ∧ KindT wx (w1.heap.size + 1) tv' wv' (vs ++ [.slice Ay ny cy]) (ws ++ [v2]) (xss ++ [strVs ys]) ∧ w1.heap.size + 1 ≤ wx.heap.size ∧ Below w.heap.size w wx :=
              fun wx h => ⟨Hm9.out.below h, HB9.out.below h HB9.out.lt, HK9.out.below h (Nat.le_refl _), Nat.le_trans hsz9 h.size, Hb09.out.trans (h.mono (Nat.le_trans (Nat.le_of_lt gzW) g9))⟩
            have HF := Lib.hid hmf
            clear hmf
            by_cases hp0 : P.2 = 0
            · obtain ⟨hmr, hpe⟩ := putW_ok ⟨k0, t, l, e, c, ok, es⟩ (by rw [HP.out]; exact hp0)
              have hgp : getW P.1 = (⟨k0, t, l, e, c, ok, es⟩, 0) := by have := getW_put ⟨k0, t, l, e, c, ok, es⟩ (by rw [HP.out]; exact hp0); rwa [HP.out] at this
              have hpf : P.1.length ≤ 16039 := by have := putW_few ⟨k0, t, l, e, c, ok, es⟩; rwa [HP.out] at this
              obtain ⟨pl, pe⟩ := P
              dsimp only at hp0 hgp hpf
              subst hp0
              dsimp only
              have hg3 := fun w => wireGet_any ⟨pl.toArray⟩ w (by rw [size_mk]; omega)
              rw [show (ByteArray.mk pl.toArray).data.toList = pl from rfl, hgp] at hg3
              dsimp only at hg3
              have Hg3 := Lib.hid hg3; have Hmr := Lib.hid hmr
              have Hpe := Lib.hid (show pl = sum4 (msgL ⟨k0, t, l, e, c, ok, es⟩) ++ msgL ⟨k0, t, l, e, c, ok, es⟩ from by rw [HP.out] at hpe; exact (Prod.mk.inj hpe).1)
              clear hg3 hmr hpe hgp
              go_wp2_with (first
                | (go_at_call 13; refine (same_any ⟨yk, yt, yl, ye, yc, yo, ys⟩ (.slice Ay ny cy) (.slice Az nz cz) _ Hs1.out Hs2.out (by show ys.length ≤ 1000000000; omega)).mono ?_; rintro x w10 ⟨rfl, hb10⟩; have hm10 := Hm9.out.below hb10; have hcx := hm10.bx.cell; have hcm := hm10.bm.cell; have Hm10 := Lib.hid hm10; have Hb10 := Lib.hid hb10; clear hm10 hb10)
                | (go_at_call 14; refine (staysTexts_any 0 w.heap.size n n cl cap gl A es es _ _ Hm10.out.o Hm10.out.r (by omega) (by omega) rfl).mono ?_; rintro x w11 ⟨rfl, q11, rfl⟩))
              have hb9w := Hb10.out
              refine (Hg3.out _).mono ?_
              rintro x w12 ⟨Aw, nw, cw, rfl, how, hb12⟩
              obtain ⟨wv, hwv⟩ : ∃ wv, w12.alloc (.cells #[.int .i64 k0, .int .i64 t, .int .i64 l, .int .i64 e, .int .i64 c, .bool ok, .slice Aw nw cw] 24) = wv := ⟨_, rfl⟩
              have hb9d := below_drewN Hb10.out q11
              have hb9v : Below w9.heap.size w9 wv := by rw [← hwv]; exact (hb9d.trans (hb12.mono hb9d.size)).alloc (Nat.le_trans hb9d.size hb12.size) _
              have hV : BlkIs wv w12.heap.size 24 #[.int .i64 k0, .int .i64 t, .int .i64 l, .int .i64 e, .int .i64 c, .bool ok, .slice Aw nw cw] := by rw [← hwv]; exact BlkIs.new _ _ _
              have how2 : wv.ownsRow w9.heap.size 9 1 (.slice Aw nw cw) nw (strVs es) := by rw [← hwv]; exact (own_base how hb9d.size).alloc _
              have hfv := HF.out _ hb9v
              have hS0 : ∀ wx, Below wv.heap.size wv wx → wx.cell? ⟨w12.heap.size, 0, none⟩ = some (.int .i64 k0) ∧ wx.cell? ⟨w12.heap.size, 1, none⟩ = some (.int .i64 t) ∧ wx.cell? ⟨w12.heap.size, 2, none⟩ = some (.int .i64 l) ∧ wx.cell? ⟨w12.heap.size, 3, none⟩ = some (.int .i64 e) ∧ wx.cell? ⟨w12.heap.size, 4, none⟩ = some (.int .i64 c) ∧ wx.cell? ⟨w12.heap.size, 5, none⟩ = some (.bool ok) ∧ wx.cell? ⟨w12.heap.size, 6, none⟩ = some (.slice Aw nw cw) ∧ wx.cell? ⟨w.heap.size, 0, none⟩ = some (.int .i64 k0) ∧ wx.cell? ⟨w.heap.size, 1, none⟩ = some (.int .i64 t) ∧ wx.cell? ⟨w.heap.size, 2, none⟩ = some (.int .i64 l) ∧ wx.cell? ⟨w.heap.size, 3, none⟩ = some (.int .i64 e) ∧ wx.cell? ⟨w.heap.size, 4, none⟩ = some (.int .i64 c) ∧ wx.cell? ⟨w.heap.size, 5, none⟩ = some (.bool ok) ∧ wx.cell? ⟨w.heap.size, 6, none⟩ = some (.slice A n cap) := by
                intro wx h
                have f1 := (hV.below h hV.lt).cell; have f2 := (hfv.1.bm.below h hfv.1.bm.lt).cell
                exact ⟨f1 0, f1 1, f1 2, f1 3, f1 4, f1 5, f1 6, f2 0, f2 1, f2 2, f2 3, f2 4, f2 5, f2 6⟩
              have hW0 : ∀ wx, Below wv.heap.size wv wx → Shows wx 1 (.slice Aw nw cw) (strVs es) ∧ Shows wx 1 (.slice A n cap) (strVs es) := fun wx h =>
                ⟨Shows.own (own_below how2 h (fun q hq => (how2.lt q hq).2)), ⟨A, n, cap, rfl, (hfv.1.below h).r.more (Nat.le_trans hfv.1.lt h.size), hnc⟩⟩
              have hl' : es.length ≤ 1000000000 := by omega
              have HS := Lib.hid hS0; have HW := Lib.hid hW0; have Hb9v := Lib.hid hb9v; have Hl' := Lib.hid hl'
              clear hS0 hW0 hb9v how2 hfv hV hb9d how hb12 hb9w hl'
              have HB : Below wv.heap.size wv wv := Below.refl _ _
              have hS := HS.out _ HB
              go_wp2_with fail
              go_region_held3 (fun wx => wx.cell? ⟨w12.heap.size, 0, none⟩ = some (.int .i64 k0) ∧ wx.cell? ⟨w12.heap.size, 1, none⟩ = some (.int .i64 t) ∧ wx.cell? ⟨w12.heap.size, 2, none⟩ = some (.int .i64 l) ∧ wx.cell? ⟨w12.heap.size, 3, none⟩ = some (.int .i64 e) ∧ wx.cell? ⟨w12.heap.size, 4, none⟩ = some (.int .i64 c) ∧ wx.cell? ⟨w12.heap.size, 5, none⟩ = some (.bool ok) ∧ wx.cell? ⟨w12.heap.size, 6, none⟩ = some (.slice Aw nw cw) ∧ wx.cell? ⟨w.heap.size, 0, none⟩ = some (.int .i64 k0) ∧ wx.cell? ⟨w.heap.size, 1, none⟩ = some (.int .i64 t) ∧ wx.cell? ⟨w.heap.size, 2, none⟩ = some (.int .i64 l) ∧ wx.cell? ⟨w.heap.size, 3, none⟩ = some (.int .i64 e) ∧ wx.cell? ⟨w.heap.size, 4, none⟩ = some (.int .i64 c) ∧ wx.cell? ⟨w.heap.size, 5, none⟩ = some (.bool ok) ∧ wx.cell? ⟨w.heap.size, 6, none⟩ = some (.slice A n cap)) (first | exact hS | go_keep) ((first
                | (go_at_call 9; refine (plain_any k0 t l e c ok A n cap _).mono ?_; rintro x wx ⟨rfl, hb⟩; have HB := HB.trans ((by first | exact hb | exact below_undrew hb : Below _ _ _).mono HB.size); have hS := HS.out _ HB)
                | (go_at_call 13; refine (same_any ⟨k0, t, l, e, c, ok, es⟩ (.slice Aw nw cw) (.slice A n cap) _ (HW.out _ HB).1 (HW.out _ HB).2 Hl'.out).mono ?_; rintro x wx ⟨rfl, hb⟩; have HB := HB.trans ((by first | exact hb | exact below_undrew hb : Below _ _ _).mono HB.size); have hS := HS.out _ HB)))
              have HB' := Lib.hid (Hb9v.out.trans ((by first | exact HB | exact below_drewN HB 1 : Below _ _ _).mono Hb9v.out.size))
              clear hS HB HS HW
              obtain ⟨d, hd⟩ : ∃ d : UInt8, (d.toNat : Int) = by_ % 256 := ⟨UInt8.ofNat (by_ % 256).toNat, by simp; omega⟩
              have hp4 : 4 ≤ pl.length := by rw [Hpe.out, List.length_append, sum4_length]; omega
              obtain ⟨p, hp, hpl⟩ : ∃ p : Nat, at_ % (pl.length : Int) = (p : Int) ∧ p < pl.length := ⟨(at_ % (pl.length : Int)).toNat, by have := Int.emod_nonneg at_ (show (pl.length : Int) ≠ 0 by omega); omega, by have := Int.emod_lt_of_pos at_ (show (0 : Int) < (pl.length : Int) by omega); omega⟩
              have hxor : bits .xor .u8 (pl[p].toNat : Int) (by_ % 256) = ((pl[p] ^^^ d).toNat : Int) := by rw [← hd]; exact bits_xor_u8 _ _
              have hch : by_ % 256 ≠ 0 → getW (pl.set p (pl[p] ^^^ d)) = (.none, 7) := fun hne => getW_changed _ pl Hpe.out p hpl d (by rintro rfl; apply hne; rw [← hd]; rfl)
              have hsr : (pl.set p (pl[p] ^^^ d)).length = pl.length := List.length_set
              generalize pl[p] ^^^ d = ch at hxor hch hsr
              obtain ⟨r, hr⟩ : ∃ r, pl.set p ch = r := ⟨_, rfl⟩
              rw [hr] at hch hsr
              have hget4 := fun w => wireGet_any ⟨r.toArray⟩ w (by rw [size_mk]; omega)
              rw [show (ByteArray.mk r.toArray).data.toList = r from rfl] at hget4
              obtain ⟨⟨⟨uk, ut, ul, ue, uc, uo, us⟩, ux⟩, hG4⟩ : ∃ G, getW r = G := ⟨_, rfl⟩
              rw [hG4] at hget4 hch
              dsimp only at hget4
              have hch2 : by_ % 256 ≠ 0 → ux = 7 := fun h => (Prod.mk.inj (hch h)).2
              have Hget4 := Lib.hid hget4; have Hr := Lib.hid hr; have Hsr := Lib.hid hsr; have Hch := Lib.hid hch2
              clear hget4 hr hsr hch hch2 hG4 hd
              go_wp2_with ((with_reducible refine wpList_to_bytes _ 9 50 5 (.tmp 118) ⟨pl.toArray⟩ rfl rfl ?hx Tryz.underlying9 Tryz.underlying50 Tryz.underlying5 ?_); (case hx => rfl); intro g cap2 wc hg hcap2 hbc hrow; have Hg := Lib.hid hg; clear hg; have hcell := hrow.cell p hpl; have hfree := hrow.free p hpl; have Hrow := Lib.hid hrow; clear hrow; simp only [byteV] at hcell)
              have hgw : w9.heap.size ≤ g := by rw [Hg.out]; exact HB'.out.size
              have hb9c := (HB'.out.trans (hbc.mono HB'.out.size)).setCell (p := ⟨g, p, none⟩) (by exact hgw) (byteV ch)
              have hrow4 := Hrow.out.set p hpl ch
              rw [Hr.out] at hrow4
              have hstr4 := run_str_row (P := Tryz.prog) _ 50 9 5 Tryz.underlying50 Tryz.underlying5 Tryz.underlying9 g cap2 _ hrow4
              rw [Hsr.out] at hstr4
              unfold byteV at hstr4
              have Hb9c := Lib.hid hb9c
              clear hrow4 hb9c hbc hfree hcell HB'
              rw [hstr4]
              clear hstr4
              go_wp2_with fail
              refine (Hget4.out _).mono ?_
              rintro x w14 ⟨Au, nu, cu, rfl, hou, hb14⟩
              have hb9e := (Hb9c.out.trans (hb14.mono Hb9c.out.size)).alloc (Nat.le_trans Hb9c.out.size hb14.size) (.cells #[.int .i64 uk, .int .i64 ut, .int .i64 ul, .int .i64 ue, .int .i64 uc, .bool uo, .slice Au nu cu] 24)
              have hfin := HF.out _ hb9e
              have Hfin := Lib.hid hfin
              clear hfin hb9e hb14 hou
              by_cases z : by_ % 256 = 0
              · have z' : (by_ % 256 != 0) = false := by simpa using z
                clear z
                go_wp2_with fail
                have hfin := Hfin.out
                go_roundw
                case rel => exact ⟨k + 1, _, _, _, _, _, by omega, by go_num, hfin.2.1, hfin.2.2.1, Hvl9.out, hfin.2.2.2.1, hfin.1.r, hfin.1.bm, hfin.2.2.2.2⟩
                case measure => simp [intOf]; omega
              · have z' : (by_ % 256 != 0) = true := by simpa using z
                have hux := Hch.out z
                subst hux
                clear z
                go_wp2_with fail
                have hfin := Hfin.out
                go_roundw
                case rel => exact ⟨k + 1, _, _, _, _, _, by omega, by go_num, hfin.2.1, hfin.2.2.1, Hvl9.out, hfin.2.2.2.1, hfin.1.r, hfin.1.bm, hfin.2.2.2.2⟩
                case measure => simp [intOf]; omega
            · have hp0' : (P.2 == 0) = false := by simpa using hp0
              go_wp2_with (first
                | (go_at_call 13; refine (same_any ⟨yk, yt, yl, ye, yc, yo, ys⟩ (.slice Ay ny cy) (.slice Az nz cz) _ Hs1.out Hs2.out (by show ys.length ≤ 1000000000; omega)).mono ?_; rintro x w10 ⟨rfl, hb10⟩; have hm10 := Hm9.out.below hb10; have hcx := hm10.bx.cell; have hcm := hm10.bm.cell; have Hm10 := Lib.hid hm10; have Hb10 := Lib.hid hb10; clear hm10 hb10)
                | (go_at_call 14; refine (staysTexts_any 0 w.heap.size n n cl cap gl A es es _ _ Hm10.out.o Hm10.out.r (by omega) (by omega) rfl).mono ?_; rintro x w11 ⟨rfl, q11, rfl⟩))
              have hfin := HF.out _ (below_drewN Hb10.out q11)
              go_roundw
              case rel => exact ⟨k + 1, _, _, _, _, _, by omega, by go_num, hfin.2.1, hfin.2.2.1, Hvl9.out, hfin.2.2.2.1, hfin.1.r, hfin.1.bm, hfin.2.2.2.2⟩
              case measure => simp [intOf]; omega
          · obtain rfl : k = 2 := by omega
            have HB := Lib.hid hB; have HK := Lib.hid hK; have Hvl := Lib.hid hvl
            clear hB hK hvl hrr hMr
            go_wp2_with fail
            refine (alive20_any _).mono ?_
            rintro e w8 ⟨rfl, hb8⟩
            have hap := apartT_any w1.heap.size (w1.heap.size + 1) (bookCs tv wv) tv wv vs ws xss w8 (HB.out.below hb8 HB.out.lt) rfl rfl (bookCs_nil _ _) (by omega) (Nat.le_trans hsz hb8.size) (HK.out.below hb8 (Nat.le_refl _)) (by rw [Hvl.out]; omega)
            have Hap := Lib.hid hap
            have hb08 := hb.trans (hb8.mono (Nat.le_trans (Nat.le_of_lt gW) (Nat.le_trans gB (Nat.le_trans (Nat.le_succ _) hsz))))
            clear hap hb8 hb
            go_wp2_with fail
            refine Hap.out.mono ?_
            rintro e w9 ⟨rfl, hb9⟩
            go_wp2_with fail
            go_ret
            exact ⟨rfl, hb08.trans (hb9.mono (by omega))⟩
      · as_aux_lemma =>
        have t2' : at_ < 0 := by omega
        go_enter Tryz.func3, Tryz.ntmps3
        go_wp2_with fail
        rw [Hw0.out]
        go_wp2_with fail
        refine Hsh.out.mono ?_
        rintro e w1 ⟨rfl, hb1⟩
        rw [Hc.out]
        go_wp2_with fail
        refine (alive20_any _).mono ?_
        rintro e w2 ⟨rfl, hb2⟩
        go_wp2_with fail
        go_ret
        have hb1' := Hb0.out.trans (hb1.mono Hb0.out.size)
        exact ⟨rfl, hb1'.trans (hb2.mono hb1'.size)⟩
    · as_aux_lemma =>
      have t1' : (6000 : Int) < (b.size : Int) := by omega
      clear t1
      go_enter Tryz.func3, Tryz.ntmps3
      go_wp2_with fail
      rw [Hw0.out]
      go_wp2_with fail
      refine Hsh.out.mono ?_
      rintro e w1 ⟨rfl, hb1⟩
      rw [Hc.out]
      go_wp2_with fail
      refine (alive20_any _).mono ?_
      rintro e w2 ⟨rfl, hb2⟩
      go_wp2_with fail
      go_ret
      have hb1' := Hb0.out.trans (hb1.mono Hb0.out.size)
      exact ⟨rfl, hb1'.trans (hb2.mono hb1'.size)⟩
end Go.Proofs.YtadhboioaacaeaaGreat
