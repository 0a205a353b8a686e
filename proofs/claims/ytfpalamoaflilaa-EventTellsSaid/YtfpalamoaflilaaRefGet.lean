/- chronicleref7: bytes read as a command (printed by mkrefget.py). -/
import Derived.Test.YtfpalamoaflilaaRefPut
import Derived.Test.YtfpalamoaflilaaEvGet2
namespace Go.Proofs.Ytfpalamoaflilaa
open Go.RowKit
set_option maxHeartbeats 4000000
set_option maxRecDepth 100000
set_option linter.unusedVariables false
attribute [local go_sem] run_store_flt

theorem RinQ.alloc {w : World} {base g : Nat} {bs : List UInt8} {x : Int} (h : RinQ w base g bs x) (o : Obj) : RinQ (w.alloc o) base g bs x := by
  obtain ⟨r, h1, h2, h3⟩ := h
  exact ⟨r, h1.alloc o, h2, h3⟩
theorem RinQ.drewd {w : World} {base g : Nat} {bs : List UInt8} {x : Int} (h : RinQ w base g bs x) : RinQ w.drew base g bs x := by
  obtain ⟨r, h1, h2, h3⟩ := h
  exact ⟨r, ⟨h1.1, h1.2.drew⟩, h2, h3⟩
theorem RinQ.grown {w w' : World} {base g : Nat} {row : Option Nat} {bs : List UInt8} {x : Int} (h : RinQ w base g bs x) (hg : w.grownBy w' row) (hne : some g ≠ row) : RinQ w' base g bs x := by
  obtain ⟨r, h1, h2, h3⟩ := h
  exact ⟨r, ⟨h1.1, h1.2.grown hg hne⟩, h2, h3⟩
theorem RinQ.far {w : World} {base g : Nat} {bs : List UInt8} {x : Int} (h : RinQ w base g bs x) {p : Addr} (hp : g ≠ p.block) (u : Value) : RinQ (w.setCell p u) base g bs x := by
  obtain ⟨r, h1, h2, h3⟩ := h
  exact ⟨r, ⟨h1.1, h1.2.far hp u⟩, h2, h3⟩

theorem refGet_any (b : ByteArray) (w : World) (hb : b.size ≤ 100000) :
    Calls Try.prog 26 #[.string b] w fun y w' => ∃ A n cap, y = .returned (.tuple #[.agg #[.int .i64 (getC b.data.toList).1.k, .int .i64 (getC b.data.toList).1.t, .string (getC b.data.toList).1.s, .int .i64 (getC b.data.toList).1.x, .slice A n cap, .int .i64 (getC b.data.toList).1.m0, .int .i64 (getC b.data.toList).1.m1, .int .i64 (getC b.data.toList).1.m2], .int .i64 (getC b.data.toList).2]) ∧
      w'.ownsRow w.heap.size 33 4 (.slice A n cap) n (evVs (getC b.data.toList).1.es) ∧ Below w.heap.size w w' := by
  obtain ⟨i0, hi0, hz0, hz1, hz2⟩ := info_parts info_ev
  have hsl := size_list b
  obtain ⟨a0, h0⟩ : ∃ a, inTake 1 b.data.toList 0 = a := ⟨_, rfl⟩
  obtain ⟨a1, h1⟩ : ∃ a, inTake 8 a0.2.1 a0.2.2 = a := ⟨_, rfl⟩
  obtain ⟨a2, h2⟩ : ∃ a, inText 60 a1.2.1 a1.2.2 = a := ⟨_, rfl⟩
  obtain ⟨a3, h3⟩ : ∃ a, inTake 8 a2.2.1 a2.2.2 = a := ⟨_, rfl⟩
  obtain ⟨a4, h4⟩ : ∃ a, inTake 1 a3.2.1 a3.2.2 = a := ⟨_, rfl⟩
  have hg : getC b.data.toList = tailC b.data.toList (beVal a0.1 : Nat) (i64L a1.1) ⟨a2.1.toArray⟩ (i64L a3.1) (rdEvs (beVal a4.1) a4.2.1 a4.2.2) := by subst h4; subst h3; subst h2; subst h1; subst h0; rfl
  have l0 : a0.2.1.length ≤ 100000 := by rw [← h0]; exact Nat.le_trans (inTake_few _ _ _) (by omega)
  have l1 : a1.2.1.length ≤ 100000 := by rw [← h1]; exact Nat.le_trans (inTake_few _ _ _) l0
  have l2 : a2.2.1.length ≤ 100000 := by rw [← h2]; exact Nat.le_trans (inText_few _ _ _) l1
  have l3 : a3.2.1.length ≤ 100000 := by rw [← h3]; exact Nat.le_trans (inTake_few _ _ _) l2
  have l4 : a4.2.1.length ≤ 100000 := by rw [← h4]; exact Nat.le_trans (inTake_few _ _ _) l3
  have k0 : beVal a0.1 < 256 := by rw [← h0]; exact inNum_lt 1 _ _
  have n4 : beVal a4.1 < 256 := by rw [← h4]; exact inNum_lt 1 _ _
  have hts : (⟨a2.1.toArray⟩ : ByteArray).size ≤ 100000 := by rw [size_mk, ← h2]; exact Nat.le_trans (inText_firstE _ _ _) l1
  have U0 := fun (g base : Nat) (w : World) (h : RinQ w base g b.data.toList 0) => refNumQ g base 1 _ _ w h (by omega)
  have U1 := fun (g base : Nat) (w : World) (h : RinQ w base g a0.2.1 a0.2.2) => refNumQ g base 8 _ _ w h (by omega)
  have U2 := fun (g base : Nat) (w : World) (h : RinQ w base g a1.2.1 a1.2.2) => refTextQ g base 60 _ _ w h (by omega)
  have U3 := fun (g base : Nat) (w : World) (h : RinQ w base g a2.2.1 a2.2.2) => refNumQ g base 8 _ _ w h (by omega)
  have U4 := fun (g base : Nat) (w : World) (h : RinQ w base g a3.2.1 a3.2.2) => refNumQ g base 1 _ _ w h (by omega)
  rw [h0] at U0; rw [h1] at U1; rw [h2] at U2; rw [h3] at U3; rw [h4] at U4
  have fx := i64L_in a3.1; have ft := i64L_in a1.1
  clear h0 h1 h2 h3 h4
  obtain ⟨kk, hkk⟩ : ∃ k, beVal a0.1 = k := ⟨_, rfl⟩
  obtain ⟨u1, hu1⟩ : ∃ k, beVal a1.1 = k := ⟨_, rfl⟩
  obtain ⟨u3, hu3⟩ : ∃ k, beVal a3.1 = k := ⟨_, rfl⟩
  obtain ⟨tt, htt⟩ : ∃ t, i64L a1.1 = t := ⟨_, rfl⟩
  obtain ⟨ss, hss⟩ : ∃ s : ByteArray, (⟨a2.1.toArray⟩ : ByteArray) = s := ⟨_, rfl⟩
  obtain ⟨xx, hxx⟩ : ∃ t, i64L a3.1 = t := ⟨_, rfl⟩
  obtain ⟨N, hN⟩ : ∃ N, beVal a4.1 = N := ⟨_, rfl⟩
  have wt : wrap64 ((u1 : Nat) : Int) = tt := by rw [← htt, ← hu1]; rfl
  have wx : wrap64 ((u3 : Nat) : Int) = xx := by rw [← hxx, ← hu3]; rfl
  rw [hkk] at U0 hg k0; rw [hu1] at U1; rw [htt] at hg ft; rw [hss] at U2 hg hts; rw [hu3] at U3; rw [hxx] at hg fx; rw [hN] at U4 hg n4
  have wk : wrap64 ((kk : Nat) : Int) = (kk : Nat) := IntWalk.wrap64_in _ (by omega)
  have wn : wrap64 ((N : Nat) : Int) = (N : Nat) := IntWalk.wrap64_in _ (by omega)
  obtain ⟨q, hq⟩ : ∃ q, rdEvs N a4.2.1 a4.2.2 = q := ⟨_, rfl⟩
  rw [hq] at hg
  have HU0 := Lib.hid U0; have HU1 := Lib.hid U1; have HU2 := Lib.hid U2; have HU3 := Lib.hid U3; have HU4 := Lib.hid U4; have Hg := Lib.hid hg; have Hq := Lib.hid hq; have Hsl := Lib.hid hsl; have Hn4 := Lib.hid n4; have Hl4 := Lib.hid l4; have Hts := Lib.hid hts; have Hfx := Lib.hid fx; have Hft := Lib.hid ft
  clear k0 n4 l4 hts fx ft U0 U1 U2 U3 U4 hg hq hkk htt hss hxx hN hu1 hu3 l0 l1 l2 l3
  have hbq : (⟨b.data.toList.toArray⟩ : ByteArray) = b := by cases b; simp
  obtain ⟨W0, hW0⟩ : ∃ W0, w.alloc (.cells #[.int .i64 0, .int .i64 0, .string ⟨#[]⟩, .int .i64 0, .slice none 0 0, .int .i64 0, .int .i64 0, .int .i64 0] 26) = W0 := ⟨_, rfl⟩
  have hR : BlkIs W0 w.heap.size 26 #[.int .i64 0, .int .i64 0, .string ⟨#[]⟩, .int .i64 0, .slice none 0 0, .int .i64 0, .int .i64 0, .int .i64 0] := by rw [← hW0]; exact BlkIs.new _ _ _
  have hb0 : Below w.heap.size w W0 := by rw [← hW0]; exact (Below.refl _ _).alloc (Nat.le_refl _) _
  obtain ⟨W1, hW1⟩ : ∃ W1, W0.alloc (.cells #[.string b, .int .i64 0] 85) = W1 := ⟨_, rfl⟩
  have hb1 : Below W0.heap.size W0 W1 := by rw [← hW1]; exact (Below.refl _ _).alloc (Nat.le_refl _) _
  have hi1 : RinQ W1 W0.heap.size W0.heap.size b.data.toList 0 := ⟨_, by rw [← hW1]; have := RinIs.new W0 b.data.toList; rw [hbq] at this; exact this, by omega, fun _ => rfl⟩
  have hgr : w.heap.size < W0.heap.size := hR.lt
  have R1 := Lib.hid (hR.below hb1 hgr); have W1' := Lib.hid (hb0.trans (hb1.mono (by omega))); have I1 := Lib.hid hi1
  clear hbq hR hb0 hb1 hi1
  go_enter Try.func26, Try.ntmps26
  go_wp2_with fail
  (try rw [hW0])
  (try rw [hW1])
  refine (HU0.out W0.heap.size W0.heap.size _ I1.out).mono ?_
  rintro y w2 ⟨rfl, hi, hb⟩
  have R2 := Lib.hid (R1.out.keptBy hb (by omega)); have B2 := Lib.hid (W1'.out.grown hb (by exact W1'.out.size) (fun q hq => by injection hq with hq; omega)); have I2 := Lib.hid hi
  have hgw : W0.heap.size < w2.heap.size := hi.lt
  clear hb hi hW0 hW1
  obtain ⟨g, hgd⟩ : ∃ g, W0.heap.size = g := ⟨_, rfl⟩
  rw [hgd] at I2 hgw hgr
  go_wp2_with fail
  (try rw [hgd])

  obtain ⟨V, hV⟩ : ∃ V, w2.alloc (.cells #[.int .i64 (kk : Nat), .int .i64 0, .string ⟨#[]⟩, .int .i64 0, .slice none 0 0, .int .i64 0, .int .i64 0, .int .i64 0] 26) = V := ⟨_, rfl⟩
  have hbV : Below w2.heap.size w2 V := by rw [← hV]; exact (Below.refl _ _).alloc (Nat.le_refl _) _
  have E2 := Lib.hid (show BlkIs V w2.heap.size 26 #[.int .i64 (kk : Nat), .int .i64 0, .string ⟨#[]⟩, .int .i64 0, .slice none 0 0, .int .i64 0, .int .i64 0, .int .i64 0] by rw [← hV]; exact BlkIs.new _ _ _)
  have hE2w : w.heap.size < w2.heap.size := by omega
  have RV := Lib.hid (R2.out.below hbV R2.out.lt); have WV := Lib.hid (B2.out.trans (hbV.mono B2.out.size)); have IV := Lib.hid (I2.out.below hbV hgw)
  rw [hV]
  clear hV hbV wk
  refine (HU1.out g g _ IV.out).mono ?_
  rintro y w3 ⟨rfl, hi, hb⟩
  have hE := E2.out.keptBy hb (by omega); have hR := RV.out.keptBy hb (by omega); have hG := WV.out.grown hb (by exact WV.out.size) (fun q hq => by injection hq with hq; omega)
  have hce := hE.cell; have hfe := hE.free; have hle := hE.lt
  go_wp2_with fail
  have hst : (w3).grownBy ((w3).setCell ⟨w2.heap.size, 1, none⟩ (.int .i64 tt)) (some w2.heap.size) := grown_set w3 w2.heap.size 1 (.int .i64 tt)
  have E3 := Lib.hid (hE.put 1 (.int .i64 tt)); have R3 := Lib.hid (hR.keptBy hst (by omega)); have G3 := Lib.hid (hG.grown hst (by exact hG.size) (fun q hq => by injection hq with hq; omega)); have I3 := Lib.hid (hi.keptBy hst (by omega))
  generalize hV3 : (w3).setCell ⟨w2.heap.size, 1, none⟩ (.int .i64 tt) = V3 at E3 R3 G3 I3 ⊢
  clear hV3 hst hce hfe hle hE hR hG hi hb
  refine (HU2.out g g _ I3.out).mono ?_
  rintro y w4 ⟨rfl, hi, hb⟩
  have hE := E3.out.keptBy hb (by omega); have hR := R3.out.keptBy hb (by omega); have hG := G3.out.grown hb (by exact G3.out.size) (fun q hq => by injection hq with hq; omega)
  have hce := hE.cell; have hfe := hE.free; have hle := hE.lt
  go_wp2_with fail
  have hst : (w4).grownBy ((w4).setCell ⟨w2.heap.size, 2, none⟩ (.string ss)) (some w2.heap.size) := grown_set w4 w2.heap.size 2 (.string ss)
  have E4 := Lib.hid (hE.put 2 (.string ss)); have R4 := Lib.hid (hR.keptBy hst (by omega)); have G4 := Lib.hid (hG.grown hst (by exact hG.size) (fun q hq => by injection hq with hq; omega)); have I4 := Lib.hid (hi.keptBy hst (by omega))
  generalize hV4 : (w4).setCell ⟨w2.heap.size, 2, none⟩ (.string ss) = V4 at E4 R4 G4 I4 ⊢
  clear hV4 hst hce hfe hle hE hR hG hi hb
  refine (HU3.out g g _ I4.out).mono ?_
  rintro y w5 ⟨rfl, hi, hb⟩
  have hE := E4.out.keptBy hb (by omega); have hR := R4.out.keptBy hb (by omega); have hG := G4.out.grown hb (by exact G4.out.size) (fun q hq => by injection hq with hq; omega)
  have hce := hE.cell; have hfe := hE.free; have hle := hE.lt
  go_wp2_with fail
  have hst : (w5).grownBy ((w5).setCell ⟨w2.heap.size, 3, none⟩ (.int .i64 xx)) (some w2.heap.size) := grown_set w5 w2.heap.size 3 (.int .i64 xx)
  have E5 := Lib.hid (hE.put 3 (.int .i64 xx)); have R5 := Lib.hid (hR.keptBy hst (by omega)); have G5 := Lib.hid (hG.grown hst (by exact hG.size) (fun q hq => by injection hq with hq; omega)); have I5 := Lib.hid (hi.keptBy hst (by omega))
  generalize hV5 : (w5).setCell ⟨w2.heap.size, 3, none⟩ (.int .i64 xx) = V5 at E5 R5 G5 I5 ⊢
  clear hV5 hst hce hfe hle hE hR hG hi hb
  have M5 := Lib.hid (show BlkIs V5 w2.heap.size 26 #[.int .i64 (kk : Nat), .int .i64 tt, .string ss, .int .i64 xx, .slice none 0 0, .int .i64 0, .int .i64 0, .int .i64 0] from E5.out)
  refine (HU4.out g g _ I5.out).mono ?_
  rintro y w7 ⟨rfl, hi, hb⟩
  have R7 := Lib.hid (R5.out.keptBy hb (by omega)); have M7 := Lib.hid (M5.out.keptBy hb (by omega)); have W7 := Lib.hid (G5.out.grown hb (by exact G5.out.size) (fun q hq => by injection hq with hq; omega)); have I7 := Lib.hid hi
  clear hb hi E2 E3 E4 E5 M5
  obtain ⟨mb, hmb⟩ : ∃ mb, w2.heap.size = mb := ⟨_, rfl⟩
  rw [hmb] at hgw hE2w M7
  go_wp2_with fail
  (try rw [hmb])
  (try rw [wn])
  clear wn wt wx
  go_loopw [7] (fun nn wr => ∃ (m : Nat) (bs : List UInt8) (x : Int) (v : Value) (acc : List Ev), nn = .int .i64 m ∧ m ≤ N ∧ RinQ wr g g bs x ∧ BlkIs wr mb 26 #[.int .i64 (kk : Nat), .int .i64 tt, .string ss, .int .i64 xx, v, .int .i64 0, .int .i64 0, .int .i64 0] ∧ wr.ownsRow (mb + 1) 33 4 v acc.length (evVs acc) ∧ BlkIs wr w.heap.size 26 #[.int .i64 0, .int .i64 0, .string ⟨#[]⟩, .int .i64 0, .slice none 0 0, .int .i64 0, .int .i64 0, .int .i64 0] ∧ Below w.heap.size w wr ∧ bs.length ≤ 100000 ∧ acc.length ≤ m ∧ (∀ e ∈ acc, e.fits) ∧ q = (acc ++ (rdEvs (N - m) bs x).1, (rdEvs (N - m) bs x).2)) (fun nn _ => N - (intOf nn).toNat)
  case atStart => exact ⟨0, a4.2.1, a4.2.2, _, [], rfl, Nat.zero_le _, I7.out, M7.out, World.ownsRow_nil _ _ _ _, R7.out, W7.out, Hl4.out, Nat.zero_le _, fun s hs => by simp at hs, by rw [Nat.sub_zero, Hq.out]; rfl⟩
  case round =>
    obtain ⟨m, bs, x, v, acc, rfl, hmN, hi, hM, hown, hR, hW, hbl, har, has, hqq⟩ := hrel
    have n4 := Hn4.out
    have hm4 := hM.cell 4
    have hmf := hM.free 4
    have hie := hi.err
    simp at hm4
    have hmlt := hM.lt
    have hgl := hi.lt
    have I := Lib.hid hi; have M := Lib.hid hM; have O := Lib.hid hown; have R := Lib.hid hR; have W := Lib.hid hW; have Has := Lib.hid has; have Hqq := Lib.hid hqq
    clear hi hM hown hR hW has hqq
    by_cases hgo : m < N ∧ x = 0
    · obtain ⟨hr0, rfl⟩ := hgo
      obtain ⟨r, hr⟩ : ∃ r, N - m = r + 1 := ⟨N - m - 1, by omega⟩
      have hr2 : N - (m + 1) = r := by omega
      have ht := refTake7_any g g bs 0 wr.drew I.out.drewd
      have hi2 : (rdEv bs 0).2.1.length ≤ 100000 := Nat.le_trans (rdEv_few _ _) hbl
      have hef := rdEv_fits bs 0 (by omega)
      have hq2 : q = (acc ++ [(rdEv bs 0).1] ++ (rdEvs r (rdEv bs 0).2.1 (rdEv bs 0).2.2).1, (rdEvs r (rdEv bs 0).2.1 (rdEv bs 0).2.2).2) := by rw [Hqq.out, hr, rdEvs_step]; simp
      obtain ⟨it, hit⟩ : ∃ it, rdEv bs 0 = it := ⟨_, rfl⟩
      rw [hit] at ht hi2 hef hq2
      obtain ⟨⟨id, ty, da, va⟩, bs2, x2⟩ := it
      unfold evA at ht
      dsimp only at ht hi2 hef hq2
      have Ht := Lib.hid ht; have Hq2 := Lib.hid hq2; have Hef := Lib.hid hef; have Hr2 := Lib.hid hr2
      have hi1 : (m : Int) < N := by omega
      clear ht hq2 hit hef hr hr2 Hqq
      go_wp2_with fail
      go_region_law (first
        | (refine step_append_lies _ (by rfl) (.tmp 44) (.tmp 47) _ (by rfl) (mb + 1) 33 i0 _ 4 48 Try.underlying22 hi0 hz0 hz1 hz2 rfl (by omega) v acc.length (evVs acc) (by simp [Act.eval, Act.put]) (by exact O2.out.alloc _) ⟨wt.heap.size, 0, none⟩ 1 1 [.int .i64 id, .string ty, .string da, .float .f64 va] (by simp [Act.eval, Act.put]) (by rfl) (World.news_of_block (cs := #[.int .i64 id, .string ty, .string da, .float .f64 va]) (heap_alloc_new wt _)) (by simp [Value.oneCell']) (by omega) (by simp only [maxLen]; omega) (by omega) (by simp <;> omega) _ rfl ?_; intro ga ca w3 hown3 hgrow3 hat3 hlt3; have M3 := Lib.hid ((M2.out.alloc (.cells #[.int .i64 id, .string ty, .string da, .float .f64 va] 33)).grown hgrow3 (fun e => by have := (O.out.lt _ e.symm).1; omega)); have q4 := M3.out.cell 4; have q4f := M3.out.free 4; simp at q4)
        | (go_simp; go_at_call 55; (refine Ht.out.mono ?_; rintro e wt ⟨rfl, hi, hgx⟩; have I2 := Lib.hid hi; have M2 := Lib.hid (M.out.drew.keptBy hgx (by omega)); have O2 := Lib.hid (O.out.drew.kept hgx (by cases hq : v.ownBlock with | none => exact .inl rfl | some q => exact .inr (fun e => by have := (O.out.lt q hq).1; injection e with e; omega))); have hszt : mb + 1 ≤ wt.heap.size := Nat.le_trans hmlt hgx.size; have hm4t := M2.out.cell 4; have hm4a := (M2.out.alloc (.cells #[.int .i64 id, .string ty, .string da, .float .f64 va] 33)).cell 4; rw [show (#[.int .i64 (kk : Nat), .int .i64 tt, .string ss, .int .i64 xx, v, .int .i64 0, .int .i64 0, .int .i64 0] : Array Value)[4]? = some v from rfl] at hm4t hm4a; clear hi)))
      all_goals
        have hgl : g < wr.heap.size := I.out.lt
        have hwl : w.heap.size < wr.heap.size := R.out.lt
        have hv3 : mb + 1 ≤ ga := by
          rcases hat3 with h | h
          · exact (O.out.lt ga h).1
          · first
              | (simp at h; omega)
              | (rw [h]; simp; omega)
        have R2t := (R.out.drew.keptBy hgx (by omega)).alloc (.cells #[.int .i64 id, .string ty, .string da, .float .f64 va] 33)
        have I3 := (I2.out.alloc (.cells #[.int .i64 id, .string ty, .string da, .float .f64 va] 33)).grown hgrow3 (fun e => by have := (O.out.lt _ e.symm).1; omega)
        have R3 := R2t.grown hgrow3 (fun e => by have := (O.out.lt _ e.symm).1; omega)
        have W2t : Below w.heap.size w (wt.alloc (.cells #[.int .i64 id, .string ty, .string da, .float .f64 va] 33)) := ((below_drewN W.out 1).grown hgx (by exact W.out.size) (fun q hq => by injection hq with hq; omega)).alloc (by have := W.out.size; omega) _
        have W3 := W2t.grown hgrow3 (by simp; omega) (fun q hq => by have := (O.out.lt _ hq).1; omega)
        have I4 := I3.keptBy (grown_set w3 mb 4 (.slice (some ⟨ga, 0, none⟩) (acc.length + 1) ca)) (by omega)
        have R4 := R3.keptBy (grown_set w3 mb 4 (.slice (some ⟨ga, 0, none⟩) (acc.length + 1) ca)) (by omega)
        have W4 := W3.setCell (p := ⟨mb, 4, none⟩) (by show w.heap.size ≤ mb; omega) (.slice (some ⟨ga, 0, none⟩) (acc.length + 1) ca)
        have M4 := M3.out.put 4 (.slice (some ⟨ga, 0, none⟩) (acc.length + 1) ca)
        have O4 := own_far (a := ⟨mb, 4, none⟩) hown3 (by simp [Value.ownBlock]; omega) (.slice (some ⟨ga, 0, none⟩) (acc.length + 1) ca)
        have HI4 := Lib.hid I4; have HR4 := Lib.hid R4; have HW4 := Lib.hid W4; have HM4 := Lib.hid M4; have HO4 := Lib.hid O4
        clear R2t I3 R3 W2t W3 I4 R4 W4 M4 O4 hown3 hgrow3 hie
        go_wp2_with fail
        go_roundw
        case rel =>
          refine ⟨m + 1, bs2, x2, _, acc ++ [⟨id, ty, da, va⟩], by go_num, by omega, HI4.out, HM4.out, ?_, HR4.out, HW4.out, hi2, by simp; omega, fun s hs => ?_, by rw [Hr2.out]; exact Hq2.out⟩
          · have := HO4.out
            rw [List.length_append]
            rw [evVs_append]
            exact this
          · rcases List.mem_append.1 hs with h | h
            · exact Has.out s h
            · simp at h; rw [h]; exact Hef.out
        case measure => simp [intOf] <;> omega
    · have hst : (rdEvs (N - m) bs x) = ([], bs, x) := by
        by_cases hx : x = 0
        · have : N - m = 0 := by omega
          rw [this]; rfl
        · exact rdEvs_stop _ bs x hx
      rw [hst] at Hqq
      have hqq : q = (acc, bs, x) := by rw [Hqq.out]; simp
      have hex : decide ((m : Int) < (N : Int)) = false ∨ (decide ((m : Int) < (N : Int)) = true ∧ (x == 0) = false) := by
        by_cases h0 : m < N
        · exact .inr ⟨by rw [decide_eq_true_iff]; omega, by simp; omega⟩
        · exact .inl (by simp; omega)
      subst hqq
      clear Hqq hst hgo
      obtain ⟨A, cap, rfl, hnc⟩ := own_slice O.out
      obtain ⟨b0, e0⟩ : ∃ a, inTake 8 bs x = a := ⟨_, rfl⟩
      obtain ⟨b1, e1⟩ : ∃ a, inTake 8 b0.2.1 b0.2.2 = a := ⟨_, rfl⟩
      obtain ⟨b2, e2⟩ : ∃ a, inTake 8 b1.2.1 b1.2.2 = a := ⟨_, rfl⟩
      have hgt : getC b.data.toList = if endL b2.2.1 b2.2.2 ≠ 0 then (.none, endL b2.2.1 b2.2.2) else if (putC ⟨(kk : Nat), tt, ss, xx, acc, i64L b0.1, i64L b1.1, i64L b2.1⟩).2 ≠ 0 ∨ (putC ⟨(kk : Nat), tt, ss, xx, acc, i64L b0.1, i64L b1.1, i64L b2.1⟩).1 ≠ b.data.toList then (.none, 6) else (⟨(kk : Nat), tt, ss, xx, acc, i64L b0.1, i64L b1.1, i64L b2.1⟩, 0) := by
        rw [Hg.out]; subst e2; subst e1; subst e0; rfl
      have V0 := fun (w : World) (h : RinQ w g g bs x) => refNumQ g g 8 bs x w h (by omega)
      have V1 := fun (w : World) (h : RinQ w g g b0.2.1 b0.2.2) => refNumQ g g 8 _ _ w h (by omega)
      have V2 := fun (w : World) (h : RinQ w g g b1.2.1 b1.2.2) => refNumQ g g 8 _ _ w h (by omega)
      rw [e0] at V0; rw [e1] at V1; rw [e2] at V2
      clear e0 e1 e2
      obtain ⟨n0, hn0⟩ : ∃ t, i64L b0.1 = t := ⟨_, rfl⟩
      obtain ⟨n1, hn1⟩ : ∃ t, i64L b1.1 = t := ⟨_, rfl⟩
      obtain ⟨n2, hn2⟩ : ∃ t, i64L b2.1 = t := ⟨_, rfl⟩
      obtain ⟨v0, hv0⟩ : ∃ t, beVal b0.1 = t := ⟨_, rfl⟩
      obtain ⟨v1, hv1⟩ : ∃ t, beVal b1.1 = t := ⟨_, rfl⟩
      obtain ⟨v2, hv2⟩ : ∃ t, beVal b2.1 = t := ⟨_, rfl⟩
      have y0 : wrap64 ((v0 : Nat) : Int) = n0 := by rw [← hn0, ← hv0]; rfl
      have y1 : wrap64 ((v1 : Nat) : Int) = n1 := by rw [← hn1, ← hv1]; rfl
      have y2 : wrap64 ((v2 : Nat) : Int) = n2 := by rw [← hn2, ← hv2]; rfl
      rw [hv0] at V0; rw [hv1] at V1; rw [hv2] at V2
      rw [hn0, hn1, hn2] at hgt
      obtain ⟨p, hp⟩ : ∃ p, putC ⟨(kk : Nat), tt, ss, xx, acc, n0, n1, n2⟩ = p := ⟨_, rfl⟩
      rw [hp] at hgt
      have hput := fun (w : World) (hr : SlR w w.heap.size 4 A acc.length (evVs acc)) => refPut_any (kk : Nat) tt ss xx A acc.length cap w.heap.size acc n0 n1 n2 w hr (Nat.le_refl _) (by omega) Has.out (by have := Hts.out; omega)
      rw [hp] at hput
      have HV0 := Lib.hid V0; have HV1 := Lib.hid V1; have HV2 := Lib.hid V2; have Hgt := Lib.hid hgt; have Hput := Lib.hid hput
      clear V0 V1 V2 hgt hput hn0 hn1 hn2 hv0 hv1 hv2 hp Hg Hq
      rcases hex with d1 | ⟨d1, d2⟩
      · have d1n : decide (m < N) = false := by simpa using d1
        have R10 := R; have M10 := M; have O10 := O; have W10 := W; have I10 := I
        go_wp2_with fail
        clear hie hm4 hmf hmlt
        refine (HV0.out _ I10.out).mono ?_
        rintro y w11 ⟨rfl, hi, hb⟩
        have R11a := Lib.hid (R10.out.keptBy hb (by omega)); have M11a := Lib.hid (M10.out.keptBy hb (by omega))
        have O11a := Lib.hid (O10.out.kept hb (by cases hq : (Value.slice A acc.length cap).ownBlock with | none => exact .inl rfl | some q => exact .inr (fun e => by have := (O10.out.lt q hq).1; injection e with e; omega)))
        have W11a := Lib.hid (W10.out.grown hb (by exact W10.out.size) (fun q hq => by injection hq with hq; omega))
        have hcm := M11a.out.cell; have hfm := M11a.out.free; have hlm := M11a.out.lt
        go_wp2_with fail
        have M11 := Lib.hid (M11a.out.put 5 (.int .i64 n0)); have I11 := Lib.hid (hi.far (p := ⟨mb, 5, none⟩) (by show g ≠ mb; omega) (.int .i64 n0)); have R11 := Lib.hid (R11a.out.far (p := ⟨mb, 5, none⟩) (by show w.heap.size ≠ mb; omega) (.int .i64 n0))
        have O11 := Lib.hid (own_far (a := ⟨mb, 5, none⟩) O11a.out (fun e => by have := (O11a.out.lt _ e).1; simp at this; omega) (.int .i64 n0)); have W11 := Lib.hid (W11a.out.setCell (p := ⟨mb, 5, none⟩) (by show w.heap.size ≤ mb; omega) (.int .i64 n0))
        generalize hX11 : (w11).setCell ⟨mb, 5, none⟩ (.int .i64 n0) = X11 at M11 I11 R11 O11 W11 ⊢
        clear hX11 hcm hfm hlm hi hb
        refine (HV1.out _ I11.out).mono ?_
        rintro y w12 ⟨rfl, hi, hb⟩
        have R12a := Lib.hid (R11.out.keptBy hb (by omega)); have M12a := Lib.hid (M11.out.keptBy hb (by omega))
        have O12a := Lib.hid (O11.out.kept hb (by cases hq : (Value.slice A acc.length cap).ownBlock with | none => exact .inl rfl | some q => exact .inr (fun e => by have := (O11.out.lt q hq).1; injection e with e; omega)))
        have W12a := Lib.hid (W11.out.grown hb (by exact W11.out.size) (fun q hq => by injection hq with hq; omega))
        have hcm := M12a.out.cell; have hfm := M12a.out.free; have hlm := M12a.out.lt
        go_wp2_with fail
        have M12 := Lib.hid (M12a.out.put 6 (.int .i64 n1)); have I12 := Lib.hid (hi.far (p := ⟨mb, 6, none⟩) (by show g ≠ mb; omega) (.int .i64 n1)); have R12 := Lib.hid (R12a.out.far (p := ⟨mb, 6, none⟩) (by show w.heap.size ≠ mb; omega) (.int .i64 n1))
        have O12 := Lib.hid (own_far (a := ⟨mb, 6, none⟩) O12a.out (fun e => by have := (O12a.out.lt _ e).1; simp at this; omega) (.int .i64 n1)); have W12 := Lib.hid (W12a.out.setCell (p := ⟨mb, 6, none⟩) (by show w.heap.size ≤ mb; omega) (.int .i64 n1))
        generalize hX12 : (w12).setCell ⟨mb, 6, none⟩ (.int .i64 n1) = X12 at M12 I12 R12 O12 W12 ⊢
        clear hX12 hcm hfm hlm hi hb
        refine (HV2.out _ I12.out).mono ?_
        rintro y w13 ⟨rfl, hi, hb⟩
        have R13a := Lib.hid (R12.out.keptBy hb (by omega)); have M13a := Lib.hid (M12.out.keptBy hb (by omega))
        have O13a := Lib.hid (O12.out.kept hb (by cases hq : (Value.slice A acc.length cap).ownBlock with | none => exact .inl rfl | some q => exact .inr (fun e => by have := (O12.out.lt q hq).1; injection e with e; omega)))
        have W13a := Lib.hid (W12.out.grown hb (by exact W12.out.size) (fun q hq => by injection hq with hq; omega))
        have hcm := M13a.out.cell; have hfm := M13a.out.free; have hlm := M13a.out.lt
        go_wp2_with fail
        have M13 := Lib.hid (M13a.out.put 7 (.int .i64 n2)); have I13 := Lib.hid (hi.far (p := ⟨mb, 7, none⟩) (by show g ≠ mb; omega) (.int .i64 n2)); have R13 := Lib.hid (R13a.out.far (p := ⟨mb, 7, none⟩) (by show w.heap.size ≠ mb; omega) (.int .i64 n2))
        have O13 := Lib.hid (own_far (a := ⟨mb, 7, none⟩) O13a.out (fun e => by have := (O13a.out.lt _ e).1; simp at this; omega) (.int .i64 n2)); have W13 := Lib.hid (W13a.out.setCell (p := ⟨mb, 7, none⟩) (by show w.heap.size ≤ mb; omega) (.int .i64 n2))
        generalize hX13 : (w13).setCell ⟨mb, 7, none⟩ (.int .i64 n2) = X13 at M13 I13 R13 O13 W13 ⊢
        clear hX13 hcm hfm hlm hi hb
        have M13 := Lib.hid (show BlkIs X13 mb 26 #[.int .i64 (kk : Nat), .int .i64 tt, .string ss, .int .i64 xx, .slice A acc.length cap, .int .i64 n0, .int .i64 n1, .int .i64 n2] from M13.out)
        refine (refEndQ g g b2.2.1 b2.2.2 X13 I13.out).mono ?_
        rintro y w14 ⟨rfl, hb⟩
        have R14 := Lib.hid (R13.out.keptBy hb (by omega)); have M14 := Lib.hid (M13.out.keptBy hb (by omega))
        have O14 := Lib.hid (O13.out.kept hb (by cases hq : (Value.slice A acc.length cap).ownBlock with | none => exact .inl rfl | some q => exact .inr (fun e => by have := (O13.out.lt q hq).1; injection e with e; omega)))
        have W14 := Lib.hid (W13.out.grown hb (by exact W13.out.size) (fun q hq => by injection hq with hq; omega))
        clear hb
        have hcR := R14.out.cell; have hfR := R14.out.free; have hcM := M14.out.cell; have hRl := R14.out.lt
        by_cases z1 : endL b2.2.1 b2.2.2 = 0
        · have y1 : (endL b2.2.1 b2.2.2 != 0) = false := by simpa using z1
          go_wp2_with fail
          refine (Hput.out w14 (SlR.own O14.out)).mono ?_
          rintro y w15 ⟨rfl, hb⟩
          have R15 := Lib.hid (R14.out.below hb R14.out.lt); have M15 := Lib.hid (M14.out.below hb M14.out.lt)
          have O15 := Lib.hid (own_below O14.out hb (fun q hq => (O14.out.lt q hq).2)); have W15 := Lib.hid (W14.out.trans (hb.mono W14.out.size))
          clear hb hcR hfR hcM hRl
          have hcR := R15.out.cell; have hfR := R15.out.free; have hcM := M15.out.cell; have hRl := R15.out.lt
          by_cases z2 : p.2 = 0
          · have y2 : (p.2 != 0) = false := by simpa using z2
            by_cases z3 : p.1 = b.data.toList
            · have y3 : (p.1 == b.toList) = true := by rw [ByteArray.toList_eq]; simpa using z3
              have HG : Hid (getC b.data.toList = (⟨(kk : Nat), tt, ss, xx, acc, n0, n1, n2⟩, 0)) := Lib.hid (by rw [Hgt.out, if_neg (by simpa using z1), if_neg (by rintro (h | h); exact h z2; exact h z3)])
              clear z1 z2 z3
              go_wp2_with fail
              change bodyPost _ _ _ _ _ (setEight w15 w.heap.size (.int .i64 (kk : Nat)) (.int .i64 tt) (.string ss) (.int .i64 xx) (.slice A acc.length cap) (.int .i64 n0) (.int .i64 n1) (.int .i64 n2))
              have hB9 := blk_eight R15.out (.int .i64 (kk : Nat)) (.int .i64 tt) (.string ss) (.int .i64 xx) (.slice A acc.length cap) (.int .i64 n0) (.int .i64 n1) (.int .i64 n2)
              have hW9 := below_eight W15.out (Nat.le_refl w.heap.size) (.int .i64 (kk : Nat)) (.int .i64 tt) (.string ss) (.int .i64 xx) (.slice A acc.length cap) (.int .i64 n0) (.int .i64 n1) (.int .i64 n2)
              have hO9 := own_eight (g := w.heap.size) O15.out (fun e => by have := (O15.out.lt _ e).1; omega) (.int .i64 (kk : Nat)) (.int .i64 tt) (.string ss) (.int .i64 xx) (.slice A acc.length cap) (.int .i64 n0) (.int .i64 n1) (.int .i64 n2)
              generalize setEight w15 w.heap.size (.int .i64 (kk : Nat)) (.int .i64 tt) (.string ss) (.int .i64 xx) (.slice A acc.length cap) (.int .i64 n0) (.int .i64 n1) (.int .i64 n2) = W9 at hB9 hW9 hO9 ⊢
              have hcell := hB9.cell; have hfree := hB9.free; have hlt9 := hB9.lt
              clear hcR hfR hcM hRl
              refine bodyPost_ret (v := .tuple #[.agg #[.int .i64 (kk : Nat), .int .i64 tt, .string ss, .int .i64 xx, .slice A acc.length cap, .int .i64 n0, .int .i64 n1, .int .i64 n2], .int .i64 0]) ?_ rfl ?_
              · simp [results, Try.results26, go_sem, hcell, hfree, hlt9]
              · rw [HG.out]
                exact ⟨A, acc.length, cap, rfl, own_baseE hO9 (by omega), hW9⟩
            · have y3 : (p.1 == b.toList) = false := by rw [ByteArray.toList_eq]; simpa using z3
              have HG : Hid (getC b.data.toList = (.none, 6)) := Lib.hid (by rw [Hgt.out, if_neg (by simpa using z1), if_pos (.inr z3)])
              clear z1 z2 z3
              go_wp2_with fail
              change bodyPost _ _ _ _ _ (setEight w15 w.heap.size (.int .i64 0) (.int .i64 0) (.string ⟨#[]⟩) (.int .i64 0) (.slice none 0 0) (.int .i64 0) (.int .i64 0) (.int .i64 0))
              have hB9 := blk_eight R15.out (.int .i64 0) (.int .i64 0) (.string ⟨#[]⟩) (.int .i64 0) (.slice none 0 0) (.int .i64 0) (.int .i64 0) (.int .i64 0)
              have hW9 := below_eight W15.out (Nat.le_refl w.heap.size) (.int .i64 0) (.int .i64 0) (.string ⟨#[]⟩) (.int .i64 0) (.slice none 0 0) (.int .i64 0) (.int .i64 0) (.int .i64 0)
              generalize setEight w15 w.heap.size (.int .i64 0) (.int .i64 0) (.string ⟨#[]⟩) (.int .i64 0) (.slice none 0 0) (.int .i64 0) (.int .i64 0) (.int .i64 0) = W9 at hB9 hW9 ⊢
              have hcell := hB9.cell; have hfree := hB9.free; have hlt9 := hB9.lt
              clear hcR hfR hcM hRl
              refine bodyPost_ret (v := .tuple #[.agg #[.int .i64 0, .int .i64 0, .string ⟨#[]⟩, .int .i64 0, .slice none 0 0, .int .i64 0, .int .i64 0, .int .i64 0], .int .i64 6]) ?_ rfl ?_
              · simp [results, Try.results26, go_sem, hcell, hfree, hlt9]
              · rw [HG.out]
                exact ⟨none, 0, 0, rfl, World.ownsRow_nil _ _ _ _, hW9⟩
          · have y2 : (p.2 != 0) = true := by simpa using z2
            have HG : Hid (getC b.data.toList = (.none, 6)) := Lib.hid (by rw [Hgt.out, if_neg (by simpa using z1), if_pos (.inl z2)])
            clear z1 z2
            go_wp2_with fail
            change bodyPost _ _ _ _ _ (setEight w15 w.heap.size (.int .i64 0) (.int .i64 0) (.string ⟨#[]⟩) (.int .i64 0) (.slice none 0 0) (.int .i64 0) (.int .i64 0) (.int .i64 0))
            have hB9 := blk_eight R15.out (.int .i64 0) (.int .i64 0) (.string ⟨#[]⟩) (.int .i64 0) (.slice none 0 0) (.int .i64 0) (.int .i64 0) (.int .i64 0)
            have hW9 := below_eight W15.out (Nat.le_refl w.heap.size) (.int .i64 0) (.int .i64 0) (.string ⟨#[]⟩) (.int .i64 0) (.slice none 0 0) (.int .i64 0) (.int .i64 0) (.int .i64 0)
            generalize setEight w15 w.heap.size (.int .i64 0) (.int .i64 0) (.string ⟨#[]⟩) (.int .i64 0) (.slice none 0 0) (.int .i64 0) (.int .i64 0) (.int .i64 0) = W9 at hB9 hW9 ⊢
            have hcell := hB9.cell; have hfree := hB9.free; have hlt9 := hB9.lt
            clear hcR hfR hcM hRl
            refine bodyPost_ret (v := .tuple #[.agg #[.int .i64 0, .int .i64 0, .string ⟨#[]⟩, .int .i64 0, .slice none 0 0, .int .i64 0, .int .i64 0, .int .i64 0], .int .i64 6]) ?_ rfl ?_
            · simp [results, Try.results26, go_sem, hcell, hfree, hlt9]
            · rw [HG.out]
              exact ⟨none, 0, 0, rfl, World.ownsRow_nil _ _ _ _, hW9⟩
        · have y1 : (endL b2.2.1 b2.2.2 != 0) = true := by simpa using z1
          have HG : Hid (getC b.data.toList = (.none, endL b2.2.1 b2.2.2)) := Lib.hid (by rw [Hgt.out, if_pos z1])
          clear z1
          go_wp2_with fail
          change bodyPost _ _ _ _ _ (setEight w14 w.heap.size (.int .i64 0) (.int .i64 0) (.string ⟨#[]⟩) (.int .i64 0) (.slice none 0 0) (.int .i64 0) (.int .i64 0) (.int .i64 0))
          have hB9 := blk_eight R14.out (.int .i64 0) (.int .i64 0) (.string ⟨#[]⟩) (.int .i64 0) (.slice none 0 0) (.int .i64 0) (.int .i64 0) (.int .i64 0)
          have hW9 := below_eight W14.out (Nat.le_refl w.heap.size) (.int .i64 0) (.int .i64 0) (.string ⟨#[]⟩) (.int .i64 0) (.slice none 0 0) (.int .i64 0) (.int .i64 0) (.int .i64 0)
          generalize setEight w14 w.heap.size (.int .i64 0) (.int .i64 0) (.string ⟨#[]⟩) (.int .i64 0) (.slice none 0 0) (.int .i64 0) (.int .i64 0) (.int .i64 0) = W9 at hB9 hW9 ⊢
          have hcell := hB9.cell; have hfree := hB9.free; have hlt9 := hB9.lt
          clear hcR hfR hcM hRl
          refine bodyPost_ret (v := .tuple #[.agg #[.int .i64 0, .int .i64 0, .string ⟨#[]⟩, .int .i64 0, .slice none 0 0, .int .i64 0, .int .i64 0, .int .i64 0], .int .i64 (endL b2.2.1 b2.2.2)]) ?_ rfl ?_
          · simp [results, Try.results26, go_sem, hcell, hfree, hlt9]
          · rw [HG.out]
            exact ⟨none, 0, 0, rfl, World.ownsRow_nil _ _ _ _, hW9⟩
      · have d1n : decide (m < N) = true := by simpa using d1
        have R10 := R; have M10 := M; have O10 := O; have W10 := W; have I10 := I
        go_wp2_with fail
        clear hie hm4 hmf hmlt
        refine (HV0.out _ I10.out).mono ?_
        rintro y w11 ⟨rfl, hi, hb⟩
        have R11a := Lib.hid (R10.out.keptBy hb (by omega)); have M11a := Lib.hid (M10.out.keptBy hb (by omega))
        have O11a := Lib.hid (O10.out.kept hb (by cases hq : (Value.slice A acc.length cap).ownBlock with | none => exact .inl rfl | some q => exact .inr (fun e => by have := (O10.out.lt q hq).1; injection e with e; omega)))
        have W11a := Lib.hid (W10.out.grown hb (by exact W10.out.size) (fun q hq => by injection hq with hq; omega))
        have hcm := M11a.out.cell; have hfm := M11a.out.free; have hlm := M11a.out.lt
        go_wp2_with fail
        have M11 := Lib.hid (M11a.out.put 5 (.int .i64 n0)); have I11 := Lib.hid (hi.far (p := ⟨mb, 5, none⟩) (by show g ≠ mb; omega) (.int .i64 n0)); have R11 := Lib.hid (R11a.out.far (p := ⟨mb, 5, none⟩) (by show w.heap.size ≠ mb; omega) (.int .i64 n0))
        have O11 := Lib.hid (own_far (a := ⟨mb, 5, none⟩) O11a.out (fun e => by have := (O11a.out.lt _ e).1; simp at this; omega) (.int .i64 n0)); have W11 := Lib.hid (W11a.out.setCell (p := ⟨mb, 5, none⟩) (by show w.heap.size ≤ mb; omega) (.int .i64 n0))
        generalize hX11 : (w11).setCell ⟨mb, 5, none⟩ (.int .i64 n0) = X11 at M11 I11 R11 O11 W11 ⊢
        clear hX11 hcm hfm hlm hi hb
        refine (HV1.out _ I11.out).mono ?_
        rintro y w12 ⟨rfl, hi, hb⟩
        have R12a := Lib.hid (R11.out.keptBy hb (by omega)); have M12a := Lib.hid (M11.out.keptBy hb (by omega))
        have O12a := Lib.hid (O11.out.kept hb (by cases hq : (Value.slice A acc.length cap).ownBlock with | none => exact .inl rfl | some q => exact .inr (fun e => by have := (O11.out.lt q hq).1; injection e with e; omega)))
        have W12a := Lib.hid (W11.out.grown hb (by exact W11.out.size) (fun q hq => by injection hq with hq; omega))
        have hcm := M12a.out.cell; have hfm := M12a.out.free; have hlm := M12a.out.lt
        go_wp2_with fail
        have M12 := Lib.hid (M12a.out.put 6 (.int .i64 n1)); have I12 := Lib.hid (hi.far (p := ⟨mb, 6, none⟩) (by show g ≠ mb; omega) (.int .i64 n1)); have R12 := Lib.hid (R12a.out.far (p := ⟨mb, 6, none⟩) (by show w.heap.size ≠ mb; omega) (.int .i64 n1))
        have O12 := Lib.hid (own_far (a := ⟨mb, 6, none⟩) O12a.out (fun e => by have := (O12a.out.lt _ e).1; simp at this; omega) (.int .i64 n1)); have W12 := Lib.hid (W12a.out.setCell (p := ⟨mb, 6, none⟩) (by show w.heap.size ≤ mb; omega) (.int .i64 n1))
        generalize hX12 : (w12).setCell ⟨mb, 6, none⟩ (.int .i64 n1) = X12 at M12 I12 R12 O12 W12 ⊢
        clear hX12 hcm hfm hlm hi hb
        refine (HV2.out _ I12.out).mono ?_
        rintro y w13 ⟨rfl, hi, hb⟩
        have R13a := Lib.hid (R12.out.keptBy hb (by omega)); have M13a := Lib.hid (M12.out.keptBy hb (by omega))
        have O13a := Lib.hid (O12.out.kept hb (by cases hq : (Value.slice A acc.length cap).ownBlock with | none => exact .inl rfl | some q => exact .inr (fun e => by have := (O12.out.lt q hq).1; injection e with e; omega)))
        have W13a := Lib.hid (W12.out.grown hb (by exact W12.out.size) (fun q hq => by injection hq with hq; omega))
        have hcm := M13a.out.cell; have hfm := M13a.out.free; have hlm := M13a.out.lt
        go_wp2_with fail
        have M13 := Lib.hid (M13a.out.put 7 (.int .i64 n2)); have I13 := Lib.hid (hi.far (p := ⟨mb, 7, none⟩) (by show g ≠ mb; omega) (.int .i64 n2)); have R13 := Lib.hid (R13a.out.far (p := ⟨mb, 7, none⟩) (by show w.heap.size ≠ mb; omega) (.int .i64 n2))
        have O13 := Lib.hid (own_far (a := ⟨mb, 7, none⟩) O13a.out (fun e => by have := (O13a.out.lt _ e).1; simp at this; omega) (.int .i64 n2)); have W13 := Lib.hid (W13a.out.setCell (p := ⟨mb, 7, none⟩) (by show w.heap.size ≤ mb; omega) (.int .i64 n2))
        generalize hX13 : (w13).setCell ⟨mb, 7, none⟩ (.int .i64 n2) = X13 at M13 I13 R13 O13 W13 ⊢
        clear hX13 hcm hfm hlm hi hb
        have M13 := Lib.hid (show BlkIs X13 mb 26 #[.int .i64 (kk : Nat), .int .i64 tt, .string ss, .int .i64 xx, .slice A acc.length cap, .int .i64 n0, .int .i64 n1, .int .i64 n2] from M13.out)
        refine (refEndQ g g b2.2.1 b2.2.2 X13 I13.out).mono ?_
        rintro y w14 ⟨rfl, hb⟩
        have R14 := Lib.hid (R13.out.keptBy hb (by omega)); have M14 := Lib.hid (M13.out.keptBy hb (by omega))
        have O14 := Lib.hid (O13.out.kept hb (by cases hq : (Value.slice A acc.length cap).ownBlock with | none => exact .inl rfl | some q => exact .inr (fun e => by have := (O13.out.lt q hq).1; injection e with e; omega)))
        have W14 := Lib.hid (W13.out.grown hb (by exact W13.out.size) (fun q hq => by injection hq with hq; omega))
        clear hb
        have hcR := R14.out.cell; have hfR := R14.out.free; have hcM := M14.out.cell; have hRl := R14.out.lt
        by_cases z1 : endL b2.2.1 b2.2.2 = 0
        · have y1 : (endL b2.2.1 b2.2.2 != 0) = false := by simpa using z1
          go_wp2_with fail
          refine (Hput.out w14 (SlR.own O14.out)).mono ?_
          rintro y w15 ⟨rfl, hb⟩
          have R15 := Lib.hid (R14.out.below hb R14.out.lt); have M15 := Lib.hid (M14.out.below hb M14.out.lt)
          have O15 := Lib.hid (own_below O14.out hb (fun q hq => (O14.out.lt q hq).2)); have W15 := Lib.hid (W14.out.trans (hb.mono W14.out.size))
          clear hb hcR hfR hcM hRl
          have hcR := R15.out.cell; have hfR := R15.out.free; have hcM := M15.out.cell; have hRl := R15.out.lt
          by_cases z2 : p.2 = 0
          · have y2 : (p.2 != 0) = false := by simpa using z2
            by_cases z3 : p.1 = b.data.toList
            · have y3 : (p.1 == b.toList) = true := by rw [ByteArray.toList_eq]; simpa using z3
              have HG : Hid (getC b.data.toList = (⟨(kk : Nat), tt, ss, xx, acc, n0, n1, n2⟩, 0)) := Lib.hid (by rw [Hgt.out, if_neg (by simpa using z1), if_neg (by rintro (h | h); exact h z2; exact h z3)])
              clear z1 z2 z3
              go_wp2_with fail
              change bodyPost _ _ _ _ _ (setEight w15 w.heap.size (.int .i64 (kk : Nat)) (.int .i64 tt) (.string ss) (.int .i64 xx) (.slice A acc.length cap) (.int .i64 n0) (.int .i64 n1) (.int .i64 n2))
              have hB9 := blk_eight R15.out (.int .i64 (kk : Nat)) (.int .i64 tt) (.string ss) (.int .i64 xx) (.slice A acc.length cap) (.int .i64 n0) (.int .i64 n1) (.int .i64 n2)
              have hW9 := below_eight W15.out (Nat.le_refl w.heap.size) (.int .i64 (kk : Nat)) (.int .i64 tt) (.string ss) (.int .i64 xx) (.slice A acc.length cap) (.int .i64 n0) (.int .i64 n1) (.int .i64 n2)
              have hO9 := own_eight (g := w.heap.size) O15.out (fun e => by have := (O15.out.lt _ e).1; omega) (.int .i64 (kk : Nat)) (.int .i64 tt) (.string ss) (.int .i64 xx) (.slice A acc.length cap) (.int .i64 n0) (.int .i64 n1) (.int .i64 n2)
              generalize setEight w15 w.heap.size (.int .i64 (kk : Nat)) (.int .i64 tt) (.string ss) (.int .i64 xx) (.slice A acc.length cap) (.int .i64 n0) (.int .i64 n1) (.int .i64 n2) = W9 at hB9 hW9 hO9 ⊢
              have hcell := hB9.cell; have hfree := hB9.free; have hlt9 := hB9.lt
              clear hcR hfR hcM hRl
              refine bodyPost_ret (v := .tuple #[.agg #[.int .i64 (kk : Nat), .int .i64 tt, .string ss, .int .i64 xx, .slice A acc.length cap, .int .i64 n0, .int .i64 n1, .int .i64 n2], .int .i64 0]) ?_ rfl ?_
              · simp [results, Try.results26, go_sem, hcell, hfree, hlt9]
              · rw [HG.out]
                exact ⟨A, acc.length, cap, rfl, own_baseE hO9 (by omega), hW9⟩
            · have y3 : (p.1 == b.toList) = false := by rw [ByteArray.toList_eq]; simpa using z3
              have HG : Hid (getC b.data.toList = (.none, 6)) := Lib.hid (by rw [Hgt.out, if_neg (by simpa using z1), if_pos (.inr z3)])
              clear z1 z2 z3
              go_wp2_with fail
              change bodyPost _ _ _ _ _ (setEight w15 w.heap.size (.int .i64 0) (.int .i64 0) (.string ⟨#[]⟩) (.int .i64 0) (.slice none 0 0) (.int .i64 0) (.int .i64 0) (.int .i64 0))
              have hB9 := blk_eight R15.out (.int .i64 0) (.int .i64 0) (.string ⟨#[]⟩) (.int .i64 0) (.slice none 0 0) (.int .i64 0) (.int .i64 0) (.int .i64 0)
              have hW9 := below_eight W15.out (Nat.le_refl w.heap.size) (.int .i64 0) (.int .i64 0) (.string ⟨#[]⟩) (.int .i64 0) (.slice none 0 0) (.int .i64 0) (.int .i64 0) (.int .i64 0)
              generalize setEight w15 w.heap.size (.int .i64 0) (.int .i64 0) (.string ⟨#[]⟩) (.int .i64 0) (.slice none 0 0) (.int .i64 0) (.int .i64 0) (.int .i64 0) = W9 at hB9 hW9 ⊢
              have hcell := hB9.cell; have hfree := hB9.free; have hlt9 := hB9.lt
              clear hcR hfR hcM hRl
              refine bodyPost_ret (v := .tuple #[.agg #[.int .i64 0, .int .i64 0, .string ⟨#[]⟩, .int .i64 0, .slice none 0 0, .int .i64 0, .int .i64 0, .int .i64 0], .int .i64 6]) ?_ rfl ?_
              · simp [results, Try.results26, go_sem, hcell, hfree, hlt9]
              · rw [HG.out]
                exact ⟨none, 0, 0, rfl, World.ownsRow_nil _ _ _ _, hW9⟩
          · have y2 : (p.2 != 0) = true := by simpa using z2
            have HG : Hid (getC b.data.toList = (.none, 6)) := Lib.hid (by rw [Hgt.out, if_neg (by simpa using z1), if_pos (.inl z2)])
            clear z1 z2
            go_wp2_with fail
            change bodyPost _ _ _ _ _ (setEight w15 w.heap.size (.int .i64 0) (.int .i64 0) (.string ⟨#[]⟩) (.int .i64 0) (.slice none 0 0) (.int .i64 0) (.int .i64 0) (.int .i64 0))
            have hB9 := blk_eight R15.out (.int .i64 0) (.int .i64 0) (.string ⟨#[]⟩) (.int .i64 0) (.slice none 0 0) (.int .i64 0) (.int .i64 0) (.int .i64 0)
            have hW9 := below_eight W15.out (Nat.le_refl w.heap.size) (.int .i64 0) (.int .i64 0) (.string ⟨#[]⟩) (.int .i64 0) (.slice none 0 0) (.int .i64 0) (.int .i64 0) (.int .i64 0)
            generalize setEight w15 w.heap.size (.int .i64 0) (.int .i64 0) (.string ⟨#[]⟩) (.int .i64 0) (.slice none 0 0) (.int .i64 0) (.int .i64 0) (.int .i64 0) = W9 at hB9 hW9 ⊢
            have hcell := hB9.cell; have hfree := hB9.free; have hlt9 := hB9.lt
            clear hcR hfR hcM hRl
            refine bodyPost_ret (v := .tuple #[.agg #[.int .i64 0, .int .i64 0, .string ⟨#[]⟩, .int .i64 0, .slice none 0 0, .int .i64 0, .int .i64 0, .int .i64 0], .int .i64 6]) ?_ rfl ?_
            · simp [results, Try.results26, go_sem, hcell, hfree, hlt9]
            · rw [HG.out]
              exact ⟨none, 0, 0, rfl, World.ownsRow_nil _ _ _ _, hW9⟩
        · have y1 : (endL b2.2.1 b2.2.2 != 0) = true := by simpa using z1
          have HG : Hid (getC b.data.toList = (.none, endL b2.2.1 b2.2.2)) := Lib.hid (by rw [Hgt.out, if_pos z1])
          clear z1
          go_wp2_with fail
          change bodyPost _ _ _ _ _ (setEight w14 w.heap.size (.int .i64 0) (.int .i64 0) (.string ⟨#[]⟩) (.int .i64 0) (.slice none 0 0) (.int .i64 0) (.int .i64 0) (.int .i64 0))
          have hB9 := blk_eight R14.out (.int .i64 0) (.int .i64 0) (.string ⟨#[]⟩) (.int .i64 0) (.slice none 0 0) (.int .i64 0) (.int .i64 0) (.int .i64 0)
          have hW9 := below_eight W14.out (Nat.le_refl w.heap.size) (.int .i64 0) (.int .i64 0) (.string ⟨#[]⟩) (.int .i64 0) (.slice none 0 0) (.int .i64 0) (.int .i64 0) (.int .i64 0)
          generalize setEight w14 w.heap.size (.int .i64 0) (.int .i64 0) (.string ⟨#[]⟩) (.int .i64 0) (.slice none 0 0) (.int .i64 0) (.int .i64 0) (.int .i64 0) = W9 at hB9 hW9 ⊢
          have hcell := hB9.cell; have hfree := hB9.free; have hlt9 := hB9.lt
          clear hcR hfR hcM hRl
          refine bodyPost_ret (v := .tuple #[.agg #[.int .i64 0, .int .i64 0, .string ⟨#[]⟩, .int .i64 0, .slice none 0 0, .int .i64 0, .int .i64 0, .int .i64 0], .int .i64 (endL b2.2.1 b2.2.2)]) ?_ rfl ?_
          · simp [results, Try.results26, go_sem, hcell, hfree, hlt9]
          · rw [HG.out]
            exact ⟨none, 0, 0, rfl, World.ownsRow_nil _ _ _ _, hW9⟩
end Go.Proofs.Ytfpalamoaflilaa
