/- chapter 7: event.Get. -/
import Derived.Test.YtfpalamoaflilaaEvGet1
import Derived.Test.YtfpalamoaflilaaEvPut2
import Derived.Test.YtfpalamoaflilaaSliceStep
namespace Go.Proofs.Ytfpalamoaflilaa
open Go.RowKit
set_option maxHeartbeats 4000000
set_option maxRecDepth 100000
set_option linter.unusedVariables false
attribute [local go_sem] run_store_flt

theorem inTake_firstE (n : Nat) (bs : List UInt8) (x : Int) : (inTake n bs x).1.length ≤ bs.length := by
  unfold inTake; split
  · simp
  · split
    · simp
    · simp only [List.length_take]; omega
theorem inText_firstE (most : Nat) (bs : List UInt8) (x : Int) : (inText most bs x).1.length ≤ bs.length := by
  unfold inText; split
  · simp
  · exact Nat.le_trans (inTake_firstE _ _ _) (inTake_few 4 bs x)
theorem i64L_in (l : List UInt8) : -9223372036854775808 ≤ i64L l ∧ i64L l ≤ 9223372036854775807 := wrap64_in64 _
theorem rdEv_fits (bs : List UInt8) (x : Int) (hl : bs.length ≤ 1000000000) : (rdEv bs x).1.fits := by
  have h0 := i64L_in (inTake 8 bs x).1
  unfold rdEv
  refine ⟨h0.1, h0.2, ?_, ?_, ?_⟩
  · show (ByteArray.mk _).size ≤ _
    rw [size_mk]
    exact Nat.le_trans (inText_firstE _ _ _) (Nat.le_trans (inTake_few _ _ _) (by omega))
  · show (ByteArray.mk _).size ≤ _
    rw [size_mk]
    exact Nat.le_trans (inText_firstE _ _ _) (Nat.le_trans (inText_few _ _ _) (Nat.le_trans (inTake_few _ _ _) (by omega)))
  · exact canB_lt (inNum_lt 8 _ _)
/-- what is told of a command, from its events on -/
def tailC (b : List UInt8) (k t : Int) (s : ByteArray) (x : Int) (q : List Ev × List UInt8 × Int) : Cmd × Int :=
  let b0 := inTake 8 q.2.1 q.2.2
  let b1 := inTake 8 b0.2.1 b0.2.2
  let b2 := inTake 8 b1.2.1 b1.2.2
  if endL b2.2.1 b2.2.2 ≠ 0 then (.none, endL b2.2.1 b2.2.2)
  else if (putC ⟨k, t, s, x, q.1, i64L b0.1, i64L b1.1, i64L b2.1⟩).2 ≠ 0 ∨ (putC ⟨k, t, s, x, q.1, i64L b0.1, i64L b1.1, i64L b2.1⟩).1 ≠ b then (.none, 6)
  else (⟨k, t, s, x, q.1, i64L b0.1, i64L b1.1, i64L b2.1⟩, 0)
/-- a struct of eight cells stored whole -/
def setEight (w : World) (g : Nat) (d0 d1 d2 d3 d4 d5 d6 d7 : Value) : World := (((((((w.setCell ⟨g, 0, none⟩ d0).setCell ⟨g, 1, none⟩ d1).setCell ⟨g, 2, none⟩ d2).setCell ⟨g, 3, none⟩ d3).setCell ⟨g, 4, none⟩ d4).setCell ⟨g, 5, none⟩ d5).setCell ⟨g, 6, none⟩ d6).setCell ⟨g, 7, none⟩ d7
theorem blk_eight {w : World} {g : Nat} {t : TypeId} {c0 c1 c2 c3 c4 c5 c6 c7 : Value} (h : BlkIs w g t #[c0, c1, c2, c3, c4, c5, c6, c7]) (d0 d1 d2 d3 d4 d5 d6 d7 : Value) : BlkIs (setEight w g d0 d1 d2 d3 d4 d5 d6 d7) g t #[d0, d1, d2, d3, d4, d5, d6, d7] :=
  (((((((h.put 0 d0).put 1 d1).put 2 d2).put 3 d3).put 4 d4).put 5 d5).put 6 d6).put 7 d7
theorem below_eight {a w : World} {B g : Nat} (h : Below B a w) (hg : B ≤ g) (d0 d1 d2 d3 d4 d5 d6 d7 : Value) : Below B a (setEight w g d0 d1 d2 d3 d4 d5 d6 d7) :=
  (((((((h.setCell (p := ⟨g, 0, none⟩) hg d0).setCell (p := ⟨g, 1, none⟩) hg d1).setCell (p := ⟨g, 2, none⟩) hg d2).setCell (p := ⟨g, 3, none⟩) hg d3).setCell (p := ⟨g, 4, none⟩) hg d4).setCell (p := ⟨g, 5, none⟩) hg d5).setCell (p := ⟨g, 6, none⟩) hg d6).setCell (p := ⟨g, 7, none⟩) hg d7
theorem own_eight {w : World} {base n g c : Nat} {e : TypeId} {v : Value} {xs : List Value} (h : w.ownsRow base e c v n xs) (hg : v.ownBlock ≠ some g) (d0 d1 d2 d3 d4 d5 d6 d7 : Value) : (setEight w g d0 d1 d2 d3 d4 d5 d6 d7).ownsRow base e c v n xs :=
  own_far (a := ⟨g, 7, none⟩) (own_far (a := ⟨g, 6, none⟩) (own_far (a := ⟨g, 5, none⟩) (own_far (a := ⟨g, 4, none⟩) (own_far (a := ⟨g, 3, none⟩) (own_far (a := ⟨g, 2, none⟩) (own_far (a := ⟨g, 1, none⟩) (own_far (a := ⟨g, 0, none⟩) h hg d0) hg d1) hg d2) hg d3) hg d4) hg d5) hg d6) hg d7
theorem own_baseE {w : World} {base b : Nat} {e : TypeId} {size n : Nat} {v : Value} {xs : List Value} (h : w.ownsRow base e size v n xs) (hb : b ≤ base) : w.ownsRow b e size v n xs := by
  refine ⟨h.1, ?_⟩
  rcases h.2 with h0 | ⟨g', cap, cur, hv, hbg, rest⟩
  · exact .inl h0
  · exact .inr ⟨g', cap, cur, hv, Nat.le_trans hb hbg, rest⟩
theorem info_ev : (Try.prog.info? 33).map (fun i => (i.zero, i.size, i.bytes)) = some (some (.agg #[.int .i64 0, .string ByteArray.empty, .string ByteArray.empty, .float .f64 0]), 4, 48) := by kernel_rfl

theorem get_any (b : ByteArray) (w : World) (hb : b.size ≤ 100000) :
    Calls Try.prog 25 #[.string b] w fun y w' => ∃ A n cap, y = .returned (.tuple #[.agg #[.int .i64 (getC b.data.toList).1.k, .int .i64 (getC b.data.toList).1.t, .string (getC b.data.toList).1.s, .int .i64 (getC b.data.toList).1.x, .slice A n cap, .int .i64 (getC b.data.toList).1.m0, .int .i64 (getC b.data.toList).1.m1, .int .i64 (getC b.data.toList).1.m2], .int .i64 (getC b.data.toList).2]) ∧
      w'.ownsRow w.heap.size 33 4 (.slice A n cap) n (evVs (getC b.data.toList).1.es) ∧ Below w.heap.size w w' := by
  obtain ⟨i0, hi0, hz0, hz1, hz2⟩ := info_parts info_ev
  have hsl := size_list b
  obtain ⟨a0, h0⟩ : ∃ a, inTake 1 b.data.toList 0 = a := ⟨_, rfl⟩
  obtain ⟨a1, h1⟩ : ∃ a, inTake 8 a0.2.1 a0.2.2 = a := ⟨_, rfl⟩
  obtain ⟨a2, h2⟩ : ∃ a, inText 60 a1.2.1 a1.2.2 = a := ⟨_, rfl⟩
  obtain ⟨a3, h3⟩ : ∃ a, inTake 8 a2.2.1 a2.2.2 = a := ⟨_, rfl⟩
  obtain ⟨a4, h4⟩ : ∃ a, inTake 1 a3.2.1 a3.2.2 = a := ⟨_, rfl⟩
  have hg : getC b.data.toList = tailC b.data.toList (beVal a0.1 : Nat) (i64L a1.1) ⟨a2.1.toArray⟩ (i64L a3.1) (rdEvs (beVal a4.1) a4.2.1 a4.2.2) := by subst h4; subst h3; subst h2; subst h1; subst h0; rfl
  have l0 : a0.2.1.length ≤ 100000 := by rw [← h0]; exact Nat.le_trans (inTake_few _ _ _) (by omega)
  have l1 : a1.2.1.length ≤ 100000 := by rw [← h1]; exact Nat.le_trans (inTake_few _ _ _) l0
  have l2 : a2.2.1.length ≤ 100000 := by rw [← h2]; exact Nat.le_trans (inText_few _ _ _) l1
  have l3 : a3.2.1.length ≤ 100000 := by rw [← h3]; exact Nat.le_trans (inTake_few _ _ _) l2
  have l4 : a4.2.1.length ≤ 100000 := by rw [← h4]; exact Nat.le_trans (inTake_few _ _ _) l3
  have n4 : beVal a4.1 < 256 := by rw [← h4]; exact inNum_lt 1 _ _
  have hts : (⟨a2.1.toArray⟩ : ByteArray).size ≤ 100000 := by rw [size_mk, ← h2]; exact Nat.le_trans (inText_firstE _ _ _) l1
  have U0 : ∀ (g base : Nat) (w : World), InIs w base g b.data.toList 0 → Calls Try.prog 62 #[.pointer (some ⟨g, 0, none⟩)] w fun e w' => e = .returned (.int .i64 (beVal a0.1 : Nat)) ∧ InIs w' base g a0.2.1 a0.2.2 ∧ w.grownBy w' (some g) := fun g base w h => by have := inU8G g base _ 0 w h (by omega); unfold inNum at this; rwa [h0] at this
  have U1 := fun (g base : Nat) (w : World) (h : InIs w base g a0.2.1 a0.2.2) => inI64G g base _ _ w h (by omega)
  have U2 := fun (g base : Nat) (w : World) (h : InIs w base g a1.2.1 a1.2.2) => inTextG g base 60 _ _ w h (by omega) (by omega)
  have U3 := fun (g base : Nat) (w : World) (h : InIs w base g a2.2.1 a2.2.2) => inI64G g base _ _ w h (by omega)
  have U4 : ∀ (g base : Nat) (w : World), InIs w base g a3.2.1 a3.2.2 → Calls Try.prog 62 #[.pointer (some ⟨g, 0, none⟩)] w fun e w' => e = .returned (.int .i64 (beVal a4.1 : Nat)) ∧ InIs w' base g a4.2.1 a4.2.2 ∧ w.grownBy w' (some g) := fun g base w h => by have := inU8G g base _ _ w h (by omega); unfold inNum at this; rwa [h4] at this
  rw [h1] at U1; rw [h2] at U2; rw [h3] at U3
  have fx := i64L_in a3.1; have ft := i64L_in a1.1
  clear h0 h1 h2 h3 h4
  obtain ⟨kk, hkk⟩ : ∃ k, beVal a0.1 = k := ⟨_, rfl⟩
  obtain ⟨tt, htt⟩ : ∃ t, i64L a1.1 = t := ⟨_, rfl⟩
  obtain ⟨ss, hss⟩ : ∃ s : ByteArray, (⟨a2.1.toArray⟩ : ByteArray) = s := ⟨_, rfl⟩
  obtain ⟨xx, hxx⟩ : ∃ t, i64L a3.1 = t := ⟨_, rfl⟩
  obtain ⟨N, hN⟩ : ∃ N, beVal a4.1 = N := ⟨_, rfl⟩
  rw [hkk] at U0 hg; rw [htt] at U1 hg ft; rw [hss] at U2 hg hts; rw [hxx] at U3 hg fx; rw [hN] at U4 hg n4
  obtain ⟨q, hq⟩ : ∃ q, rdEvs N a4.2.1 a4.2.2 = q := ⟨_, rfl⟩
  rw [hq] at hg
  have HU0 := Lib.hid U0; have HU1 := Lib.hid U1; have HU2 := Lib.hid U2; have HU3 := Lib.hid U3; have HU4 := Lib.hid U4; have Hg := Lib.hid hg; have Hq := Lib.hid hq; have Hsl := Lib.hid hsl
  clear U0 U1 U2 U3 U4 hg hq hkk htt hss hxx hN l0 l1 l2 l3
  obtain ⟨W0, hW0⟩ : ∃ W0, w.alloc (.cells #[.int .i64 0, .int .i64 0, .string ⟨#[]⟩, .int .i64 0, .slice none 0 0, .int .i64 0, .int .i64 0, .int .i64 0] 26) = W0 := ⟨_, rfl⟩
  have hR : BlkIs W0 w.heap.size 26 #[.int .i64 0, .int .i64 0, .string ⟨#[]⟩, .int .i64 0, .slice none 0 0, .int .i64 0, .int .i64 0, .int .i64 0] := by rw [← hW0]; exact BlkIs.new _ _ _
  have hb0 : Below w.heap.size w W0 := by rw [← hW0]; exact (Below.refl _ _).alloc (Nat.le_refl _) _
  have R0 := Lib.hid hR; have B0 := Lib.hid hb0
  clear hR hb0
  go_enter Try.func25, Try.ntmps25
  go_wp2_with fail
  (try rw [hW0])
  refine (newIn_any b W0 (by omega)).mono ?_
  rintro y w2 ⟨g, rfl, hi, hb2⟩
  have R2 := Lib.hid (R0.out.below hb2 R0.out.lt); have W2 := Lib.hid (B0.out.trans (hb2.mono B0.out.size)); have I2 := Lib.hid hi
  have hgr : w.heap.size < g := Nat.lt_of_lt_of_le R0.out.lt hi.1
  clear hb2 hi
  go_wp2_with fail
  refine (HU0.out g W0.heap.size _ I2.out).mono ?_
  rintro y w3 ⟨rfl, hi, hb⟩
  have R3 := Lib.hid (R2.out.keptBy hb (by omega)); have W3 := Lib.hid (W2.out.grown hb (by exact W2.out.size) (fun q hq => by injection hq with hq; omega)); have I3 := Lib.hid hi
  clear hb hi
  go_wp2_with fail
  refine (HU1.out g W0.heap.size _ I3.out).mono ?_
  rintro y w4 ⟨rfl, hi, hb⟩
  have R4 := Lib.hid (R3.out.keptBy hb (by omega)); have W4 := Lib.hid (W3.out.grown hb (by exact W3.out.size) (fun q hq => by injection hq with hq; omega)); have I4 := Lib.hid hi
  clear hb hi
  go_wp2_with fail
  refine (HU2.out g W0.heap.size _ I4.out).mono ?_
  rintro y w5 ⟨rfl, hi, hb⟩
  have R5 := Lib.hid (R4.out.keptBy hb (by omega)); have W5 := Lib.hid (W4.out.grown hb (by exact W4.out.size) (fun q hq => by injection hq with hq; omega)); have I5 := Lib.hid hi
  clear hb hi
  go_wp2_with fail
  refine (HU3.out g W0.heap.size _ I5.out).mono ?_
  rintro y w6 ⟨rfl, hi, hb⟩
  have R6 := Lib.hid (R5.out.keptBy hb (by omega)); have W6 := Lib.hid (W5.out.grown hb (by exact W5.out.size) (fun q hq => by injection hq with hq; omega)); have I6 := Lib.hid hi
  clear hb hi
  go_wp2_with fail
  have M6 := BlkIs.new w6 26 #[.int .i64 (kk : Nat), .int .i64 tt, .string ss, .int .i64 xx, .slice none 0 0, .int .i64 0, .int .i64 0, .int .i64 0]
  have I6a := Lib.hid (I6.out.alloc (.cells #[.int .i64 (kk : Nat), .int .i64 tt, .string ss, .int .i64 xx, .slice none 0 0, .int .i64 0, .int .i64 0, .int .i64 0] 26))
  have hg6 : g < w6.heap.size := I6.out.lt
  refine (HU4.out g W0.heap.size _ I6a.out).mono ?_
  rintro y w7 ⟨rfl, hi, hb⟩
  have R7 := Lib.hid ((R6.out.alloc (.cells #[.int .i64 (kk : Nat), .int .i64 tt, .string ss, .int .i64 xx, .slice none 0 0, .int .i64 0, .int .i64 0, .int .i64 0] 26)).keptBy hb (by omega))
  have M7 := Lib.hid (M6.keptBy hb (by omega))
  have W7 := Lib.hid ((W6.out.alloc (by exact W6.out.size) (.cells #[.int .i64 (kk : Nat), .int .i64 tt, .string ss, .int .i64 xx, .slice none 0 0, .int .i64 0, .int .i64 0, .int .i64 0] 26)).grown hb (by have := W6.out.size; simp; omega) (fun q hq => by injection hq with hq; omega))
  have I7 := Lib.hid hi
  clear hb hi M6
  go_wp2_with fail
  go_loopw [6] (fun nn wr => ∃ (r : Nat) (bs : List UInt8) (x : Int) (v : Value) (acc : List Ev), nn = .int .i64 r ∧ InIs wr W0.heap.size g bs x ∧ BlkIs wr w6.heap.size 26 #[.int .i64 (kk : Nat), .int .i64 tt, .string ss, .int .i64 xx, v, .int .i64 0, .int .i64 0, .int .i64 0] ∧ wr.ownsRow (w6.heap.size + 1) 33 4 v acc.length (evVs acc) ∧ BlkIs wr w.heap.size 26 #[.int .i64 0, .int .i64 0, .string ⟨#[]⟩, .int .i64 0, .slice none 0 0, .int .i64 0, .int .i64 0, .int .i64 0] ∧ Below w.heap.size w wr ∧ bs.length ≤ 100000 ∧ acc.length + r ≤ 255 ∧ (∀ e ∈ acc, e.fits) ∧ q = (acc ++ (rdEvs r bs x).1, (rdEvs r bs x).2)) (fun nn _ => (intOf nn).toNat)
  case atStart => exact ⟨N, a4.2.1, a4.2.2, _, [], rfl, I7.out, M7.out, World.ownsRow_nil _ _ _ _, R7.out, W7.out, by omega, by simp; omega, fun s hs => by simp at hs, by rw [Hq.out]; rfl⟩
  case round =>
    obtain ⟨r, bs, x, v, acc, rfl, hi, hM, hown, hR, hW, hbl, har, has, hqq⟩ := hrel
    have hm4 := hM.cell 4
    have hmf := hM.free 4
    simp at hm4
    have hmlt := hM.lt
    have I := Lib.hid hi; have M := Lib.hid hM; have O := Lib.hid hown; have R := Lib.hid hR; have W := Lib.hid hW; have Has := Lib.hid has; have Hqq := Lib.hid hqq
    clear hi hM hown hR hW has hqq
    by_cases hgo : 0 < r ∧ x = 0
    · obtain ⟨hr0, rfl⟩ := hgo
      obtain ⟨r, rfl⟩ : ∃ r', r = r' + 1 := ⟨r - 1, by omega⟩
      have d1 : decide ((0 : Int) < ((r + 1 : Nat) : Int)) = true := by rw [decide_eq_true_iff]; omega
      go_wp2_with fail
      refine (inErr_any g W0.heap.size bs 0 _ I.out).mono ?_
      rintro y w10 ⟨rfl, rfl⟩
      go_wp2_with fail
      have ht := evGet_any g W0.heap.size bs 0 wr.drew ⟨I.out.1, I.out.2.drew⟩ (by omega)
      have hi2 : (rdEv bs 0).2.1.length ≤ 100000 := Nat.le_trans (rdEv_few _ _) hbl
      have hef := rdEv_fits bs 0 (by omega)
      have hq2 : q = (acc ++ [(rdEv bs 0).1] ++ (rdEvs r (rdEv bs 0).2.1 (rdEv bs 0).2.2).1, (rdEvs r (rdEv bs 0).2.1 (rdEv bs 0).2.2).2) := by rw [Hqq.out, rdEvs_step]; simp
      obtain ⟨it, hit⟩ : ∃ it, rdEv bs 0 = it := ⟨_, rfl⟩
      rw [hit] at ht hi2 hef hq2
      obtain ⟨⟨id, ty, da, va⟩, bs2, x2⟩ := it
      unfold evA at ht
      dsimp only at ht hi2 hef hq2
      have Ht := Lib.hid ht; have Hq2 := Lib.hid hq2; have Hef := Lib.hid hef
      clear ht hq2 hit hef
      go_region_law (first
        | (refine step_append_lies _ (by rfl) (.tmp 33) (.tmp 36) _ (by rfl) (w6.heap.size + 1) 33 i0 _ 4 48 Try.underlying22 hi0 hz0 hz1 hz2 rfl (by omega) v acc.length (evVs acc) (by simp [Act.eval, Act.put]) (by exact O2.out.alloc _) ⟨wt.heap.size, 0, none⟩ 1 1 [.int .i64 id, .string ty, .string da, .float .f64 va] (by simp [Act.eval, Act.put]) (by rfl) (World.news_of_block (cs := #[.int .i64 id, .string ty, .string da, .float .f64 va]) (heap_alloc_new wt _)) (by simp [Value.oneCell']) (by omega) (by simp only [maxLen]; omega) (by omega) (by simp <;> omega) _ rfl ?_; intro ga ca w3 hown3 hgrow3 hat3 hlt3; have M3 := Lib.hid ((M2.out.alloc (.cells #[.int .i64 id, .string ty, .string da, .float .f64 va] 33)).grown hgrow3 (fun e => by have := (O.out.lt _ e.symm).1; omega)); have q4 := M3.out.cell 4; have q4f := M3.out.free 4; simp at q4)
        | (go_simp; go_at_call 51; (refine Ht.out.mono ?_; rintro e wt ⟨rfl, hi, hgx⟩; have I2 := Lib.hid hi; have M2 := Lib.hid (M.out.drew.keptBy hgx (by omega)); have O2 := Lib.hid (O.out.drew.kept hgx (by cases hq : v.ownBlock with | none => exact .inl rfl | some q => exact .inr (fun e => by have := (O.out.lt q hq).1; injection e with e; omega))); have hszt : w6.heap.size + 1 ≤ wt.heap.size := Nat.le_trans hmlt hgx.size; have hm4t := M2.out.cell 4; have hm4a := (M2.out.alloc (.cells #[.int .i64 id, .string ty, .string da, .float .f64 va] 33)).cell 4; rw [show (#[.int .i64 (kk : Nat), .int .i64 tt, .string ss, .int .i64 xx, v, .int .i64 0, .int .i64 0, .int .i64 0] : Array Value)[4]? = some v from rfl] at hm4t hm4a; clear hi)))
      all_goals
        have hgl : g < wr.heap.size := I.out.2.lt
        have hwl : w.heap.size < wr.heap.size := R.out.lt
        have hv3 : w6.heap.size + 1 ≤ ga := by
          rcases hat3 with h | h
          · exact (O.out.lt ga h).1
          · first
              | (simp at h; omega)
              | (rw [h]; simp; omega)
        have R2t := (R.out.drew.keptBy hgx (by omega)).alloc (.cells #[.int .i64 id, .string ty, .string da, .float .f64 va] 33)
        have I3 := (I2.out.2.alloc (.cells #[.int .i64 id, .string ty, .string da, .float .f64 va] 33)).grown hgrow3 (fun e => by have := (O.out.lt _ e.symm).1; omega)
        have R3 := R2t.grown hgrow3 (fun e => by have := (O.out.lt _ e.symm).1; omega)
        have W2t : Below w.heap.size w (wt.alloc (.cells #[.int .i64 id, .string ty, .string da, .float .f64 va] 33)) := ((below_drewN W.out 1).grown hgx (by exact W.out.size) (fun q hq => by injection hq with hq; omega)).alloc (by have := W.out.size; omega) _
        have W3 := W2t.grown hgrow3 (by simp; omega) (fun q hq => by have := (O.out.lt _ hq).1; omega)
        have I4 := I3.keptBy (grown_set w3 w6.heap.size 4 (.slice (some ⟨ga, 0, none⟩) (acc.length + 1) ca)) (by omega)
        have R4 := R3.keptBy (grown_set w3 w6.heap.size 4 (.slice (some ⟨ga, 0, none⟩) (acc.length + 1) ca)) (by omega)
        have W4 := W3.setCell (p := ⟨w6.heap.size, 4, none⟩) (Nat.le_of_lt (Nat.lt_trans hgr hg6)) (.slice (some ⟨ga, 0, none⟩) (acc.length + 1) ca)
        have M4 := M3.out.put 4 (.slice (some ⟨ga, 0, none⟩) (acc.length + 1) ca)
        have O4 := own_far (a := ⟨w6.heap.size, 4, none⟩) hown3 (by simp [Value.ownBlock]; omega) (.slice (some ⟨ga, 0, none⟩) (acc.length + 1) ca)
        have HI4 := Lib.hid I4; have HR4 := Lib.hid R4; have HW4 := Lib.hid W4; have HM4 := Lib.hid M4; have HO4 := Lib.hid O4
        have hI21 := I2.out.1
        clear R2t I3 R3 W2t W3 I4 R4 W4 M4 O4 hown3 hgrow3
        go_wp2_with fail
        go_roundw
        case rel =>
          refine ⟨r, bs2, x2, _, acc ++ [⟨id, ty, da, va⟩], by go_num, ⟨hI21, HI4.out⟩, HM4.out, ?_, HR4.out, HW4.out, hi2, by simp; omega, fun s hs => ?_, Hq2.out⟩
          · have := HO4.out
            rw [List.length_append]
            rw [evVs_append]
            exact this
          · rcases List.mem_append.1 hs with h | h
            · exact Has.out s h
            · simp at h; rw [h]; exact Hef.out
        case measure => simp [intOf] <;> omega
    · have hst : (rdEvs r bs x) = ([], bs, x) := by
        by_cases hx : x = 0
        · have : r = 0 := by omega
          subst this; rfl
        · exact rdEvs_stop r bs x hx
      rw [hst] at Hqq
      have hqq : q = (acc, bs, x) := by rw [Hqq.out]; simp
      have hex : decide ((0 : Int) < (r : Int)) = false ∨ (decide ((0 : Int) < (r : Int)) = true ∧ (x == 0) = false) := by
        by_cases h0 : 0 < r
        · exact .inr ⟨by rw [decide_eq_true_iff]; omega, by simp; omega⟩
        · exact .inl (by simp; omega)
      subst hqq
      clear Hqq hst hgo
      obtain ⟨A, cap, rfl, hnc⟩ := own_slice O.out
      obtain ⟨b0, e0⟩ : ∃ a, inTake 8 bs x = a := ⟨_, rfl⟩
      obtain ⟨b1, e1⟩ : ∃ a, inTake 8 b0.2.1 b0.2.2 = a := ⟨_, rfl⟩
      obtain ⟨b2, e2⟩ : ∃ a, inTake 8 b1.2.1 b1.2.2 = a := ⟨_, rfl⟩
      have l0 : b0.2.1.length ≤ 100000 := by rw [← e0]; exact Nat.le_trans (inTake_few _ _ _) hbl
      have l1 : b1.2.1.length ≤ 100000 := by rw [← e1]; exact Nat.le_trans (inTake_few _ _ _) l0
      have l2 : b2.2.1.length ≤ 100000 := by rw [← e2]; exact Nat.le_trans (inTake_few _ _ _) l1
      have hgt : getC b.data.toList = if endL b2.2.1 b2.2.2 ≠ 0 then (.none, endL b2.2.1 b2.2.2) else if (putC ⟨(kk : Nat), tt, ss, xx, acc, i64L b0.1, i64L b1.1, i64L b2.1⟩).2 ≠ 0 ∨ (putC ⟨(kk : Nat), tt, ss, xx, acc, i64L b0.1, i64L b1.1, i64L b2.1⟩).1 ≠ b.data.toList then (.none, 6) else (⟨(kk : Nat), tt, ss, xx, acc, i64L b0.1, i64L b1.1, i64L b2.1⟩, 0) := by
        rw [Hg.out]; subst e2; subst e1; subst e0; rfl
      have V0 := fun (w : World) (h : InIs w W0.heap.size g bs x) => inI64G g W0.heap.size bs x w h (by omega)
      have V1 := fun (w : World) (h : InIs w W0.heap.size g b0.2.1 b0.2.2) => inI64G g W0.heap.size _ _ w h (by omega)
      have V2 := fun (w : World) (h : InIs w W0.heap.size g b1.2.1 b1.2.2) => inI64G g W0.heap.size _ _ w h (by omega)
      rw [e0] at V0; rw [e1] at V1; rw [e2] at V2
      clear e0 e1 e2
      obtain ⟨n0, hn0⟩ : ∃ t, i64L b0.1 = t := ⟨_, rfl⟩
      obtain ⟨n1, hn1⟩ : ∃ t, i64L b1.1 = t := ⟨_, rfl⟩
      obtain ⟨n2, hn2⟩ : ∃ t, i64L b2.1 = t := ⟨_, rfl⟩
      rw [hn0] at V0 hgt; rw [hn1] at V1 hgt; rw [hn2] at V2 hgt
      obtain ⟨p, hp⟩ : ∃ p, putC ⟨(kk : Nat), tt, ss, xx, acc, n0, n1, n2⟩ = p := ⟨_, rfl⟩
      rw [hp] at hgt
      have hput := fun (w : World) (hr : SlR w w.heap.size 4 A acc.length (evVs acc)) => put_any (kk : Nat) tt ss xx A acc.length cap w.heap.size acc n0 n1 n2 w hr (Nat.le_refl _) (by omega) Has.out (by omega)
      rw [hp] at hput
      have HV0 := Lib.hid V0; have HV1 := Lib.hid V1; have HV2 := Lib.hid V2; have Hgt := Lib.hid hgt; have Hput := Lib.hid hput
      clear V0 V1 V2 hgt hput hn0 hn1 hn2 hp Hg Hq
      have hpar : Calls Try.prog 63 #[.pointer (some ⟨g, 0, none⟩)] wr fun e w' => e = .returned (.int .i64 x) ∧ wr = w' := inErr_any g W0.heap.size bs x _ I.out
      have hgl : g < wr.heap.size := I.out.2.lt
      rcases hex with d1 | ⟨d1, d2⟩
      · have d1n : decide (0 < r) = false := by simpa using d1
        go_wp2_with fail
        refine (HV0.out _ I.out).mono ?_
        rintro y w10 ⟨rfl, hi, hb⟩
        have R10 := Lib.hid (R.out.keptBy hb (by omega)); have M10 := Lib.hid (M.out.keptBy hb (by omega))
        have O10 := Lib.hid (O.out.kept hb (by cases hq : (Value.slice A acc.length cap).ownBlock with | none => exact .inl rfl | some q => exact .inr (fun e => by have := (O.out.lt q hq).1; injection e with e; omega)))
        have W10 := Lib.hid (W.out.grown hb (by exact W.out.size) (fun q hq => by injection hq with hq; omega))
        have I10 := Lib.hid hi
        clear hb hi
        go_wp2_with fail
        refine (HV1.out _ I10.out).mono ?_
        rintro y w11 ⟨rfl, hi, hb⟩
        have R11 := Lib.hid (R10.out.keptBy hb (by omega)); have M11 := Lib.hid (M10.out.keptBy hb (by omega))
        have O11 := Lib.hid (O10.out.kept hb (by cases hq : (Value.slice A acc.length cap).ownBlock with | none => exact .inl rfl | some q => exact .inr (fun e => by have := (O10.out.lt q hq).1; injection e with e; omega)))
        have W11 := Lib.hid (W10.out.grown hb (by exact W10.out.size) (fun q hq => by injection hq with hq; omega))
        have I11 := Lib.hid hi
        clear hb hi
        go_wp2_with fail
        refine (HV2.out _ I11.out).mono ?_
        rintro y w12 ⟨rfl, hi, hb⟩
        have R12 := Lib.hid (R11.out.keptBy hb (by omega)); have M12 := Lib.hid (M11.out.keptBy hb (by omega))
        have O12 := Lib.hid (O11.out.kept hb (by cases hq : (Value.slice A acc.length cap).ownBlock with | none => exact .inl rfl | some q => exact .inr (fun e => by have := (O11.out.lt q hq).1; injection e with e; omega)))
        have W12 := Lib.hid (W11.out.grown hb (by exact W11.out.size) (fun q hq => by injection hq with hq; omega))
        have I12 := Lib.hid hi
        clear hb hi
        obtain ⟨w13, hw13⟩ : ∃ w13, ((w12.setCell ⟨w6.heap.size, 5, none⟩ (.int .i64 n0)).setCell ⟨w6.heap.size, 6, none⟩ (.int .i64 n1)).setCell ⟨w6.heap.size, 7, none⟩ (.int .i64 n2) = w13 := ⟨_, rfl⟩
        have hM13 : BlkIs w13 w6.heap.size 26 #[.int .i64 (kk : Nat), .int .i64 tt, .string ss, .int .i64 xx, .slice A acc.length cap, .int .i64 n0, .int .i64 n1, .int .i64 n2] := by rw [← hw13]; exact ((M12.out.put 5 _).put 6 _).put 7 _
        have hI13 : InIs w13 W0.heap.size g b2.2.1 b2.2.2 := by rw [← hw13]; exact ((I12.out.far (by omega) _).far (by omega) _).far (by omega) _
        have hR13 : BlkIs w13 w.heap.size 26 #[.int .i64 0, .int .i64 0, .string ⟨#[]⟩, .int .i64 0, .slice none 0 0, .int .i64 0, .int .i64 0, .int .i64 0] := by rw [← hw13]; exact ((R12.out.far (by show w.heap.size ≠ w6.heap.size; omega) _).far (by show w.heap.size ≠ w6.heap.size; omega) _).far (by show w.heap.size ≠ w6.heap.size; omega) _
        have hO13 : w13.ownsRow (w6.heap.size + 1) 33 4 (.slice A acc.length cap) acc.length (evVs acc) := by rw [← hw13]; exact own_far (a := ⟨w6.heap.size, 7, none⟩) (own_far (a := ⟨w6.heap.size, 6, none⟩) (own_far (a := ⟨w6.heap.size, 5, none⟩) O12.out (fun e => by have := (O12.out.lt _ e).1; simp at this; omega) _) (fun e => by have := (O12.out.lt _ e).1; simp at this; omega) _) (fun e => by have := (O12.out.lt _ e).1; simp at this; omega) _
        have hW13 : Below w.heap.size w w13 := by rw [← hw13]; exact ((W12.out.setCell (p := ⟨w6.heap.size, 5, none⟩) (by show w.heap.size ≤ w6.heap.size; omega) _).setCell (p := ⟨w6.heap.size, 6, none⟩) (by show w.heap.size ≤ w6.heap.size; omega) _).setCell (p := ⟨w6.heap.size, 7, none⟩) (by show w.heap.size ≤ w6.heap.size; omega) _
        have M13 := Lib.hid hM13; have I13 := Lib.hid hI13; have R13 := Lib.hid hR13; have O13 := Lib.hid hO13; have W13 := Lib.hid hW13
        have hc12 := M12.out.cell; have hf12 := M12.out.free; have hl12 := M12.out.lt
        clear hM13 hI13 hR13 hO13 hW13 hm4 hmf hmlt
        go_wp2_with fail
        (try rw [hw13])
        clear hc12 hf12 hl12
        refine (inEnd_any g W0.heap.size b2.2.1 b2.2.2 w13 I13.out (by omega)).mono ?_
        rintro y w14 ⟨rfl, hb, hbe⟩
        have R14 := Lib.hid (R13.out.keptBy hb (by omega)); have M14 := Lib.hid (M13.out.keptBy hb (by omega))
        have O14 := Lib.hid (O13.out.kept hb (by cases hq : (Value.slice A acc.length cap).ownBlock with | none => exact .inl rfl | some q => exact .inr (fun e => by have := (O13.out.lt q hq).1; injection e with e; omega)))
        have W14 := Lib.hid (W13.out.grown hb (by exact W13.out.size) (fun q hq => by injection hq with hq; omega))
        clear hb hbe hw13
        have hcR := R14.out.cell; have hfR := R14.out.free; have hcM := M14.out.cell; have hRl := R14.out.lt
        by_cases z1 : endL b2.2.1 b2.2.2 = 0
        · have y1 : (endL b2.2.1 b2.2.2 != 0) = false := by simpa using z1
          go_wp2_with fail
          refine (Hput.out w14 (SlR.own O14.out)).mono ?_
          rintro y w15 ⟨rfl, hb⟩
          have R15 := Lib.hid (R14.out.below hb R14.out.lt); have M15 := Lib.hid (M14.out.below hb M14.out.lt)
          have O15 := Lib.hid (own_below O14.out hb (fun q hq => (O14.out.lt q hq).2)); have W15 := Lib.hid (W14.out.trans (hb.mono W14.out.size))
          clear hb hcR hfR hcM hRl
          have hcR := R15.out.cell; have hfR := R15.out.free; have hcM := M15.out.cell; have hRl := R15.out.lt
          by_cases z2 : p.2 = 0
          · have y2 : (p.2 != 0) = false := by simpa using z2
            by_cases z3 : p.1 = b.data.toList
            · have y3 : (p.1 == b.toList) = true := by rw [ByteArray.toList_eq]; simpa using z3
              have HG : Hid (getC b.data.toList = (⟨(kk : Nat), tt, ss, xx, acc, n0, n1, n2⟩, 0)) := Lib.hid (by rw [Hgt.out, if_neg (by simpa using z1), if_neg (by rintro (h | h); exact h z2; exact h z3)])
              clear z1 z2 z3
              go_wp2_with fail
              change bodyPost _ _ _ _ _ (setEight w15 w.heap.size (.int .i64 (kk : Nat)) (.int .i64 tt) (.string ss) (.int .i64 xx) (.slice A acc.length cap) (.int .i64 n0) (.int .i64 n1) (.int .i64 n2))
              have hB9 := blk_eight R15.out (.int .i64 (kk : Nat)) (.int .i64 tt) (.string ss) (.int .i64 xx) (.slice A acc.length cap) (.int .i64 n0) (.int .i64 n1) (.int .i64 n2)
              have hW9 := below_eight W15.out (Nat.le_refl w.heap.size) (.int .i64 (kk : Nat)) (.int .i64 tt) (.string ss) (.int .i64 xx) (.slice A acc.length cap) (.int .i64 n0) (.int .i64 n1) (.int .i64 n2)
              have hO9 := own_eight (g := w.heap.size) O15.out (fun e => by have := (O15.out.lt _ e).1; omega) (.int .i64 (kk : Nat)) (.int .i64 tt) (.string ss) (.int .i64 xx) (.slice A acc.length cap) (.int .i64 n0) (.int .i64 n1) (.int .i64 n2)
              generalize setEight w15 w.heap.size (.int .i64 (kk : Nat)) (.int .i64 tt) (.string ss) (.int .i64 xx) (.slice A acc.length cap) (.int .i64 n0) (.int .i64 n1) (.int .i64 n2) = W9 at hB9 hW9 hO9 ⊢
              have hcell := hB9.cell; have hfree := hB9.free; have hlt9 := hB9.lt
              clear hcR hfR hcM hRl
              refine bodyPost_ret (v := .tuple #[.agg #[.int .i64 (kk : Nat), .int .i64 tt, .string ss, .int .i64 xx, .slice A acc.length cap, .int .i64 n0, .int .i64 n1, .int .i64 n2], .int .i64 0]) ?_ rfl ?_
              · simp [results, Try.results25, go_sem, hcell, hfree, hlt9]
              · rw [HG.out]
                exact ⟨A, acc.length, cap, rfl, own_baseE hO9 (by omega), hW9⟩
            · have y3 : (p.1 == b.toList) = false := by rw [ByteArray.toList_eq]; simpa using z3
              have HG : Hid (getC b.data.toList = (.none, 6)) := Lib.hid (by rw [Hgt.out, if_neg (by simpa using z1), if_pos (.inr z3)])
              clear z1 z2 z3
              go_wp2_with fail
              change bodyPost _ _ _ _ _ (setEight w15 w.heap.size (.int .i64 0) (.int .i64 0) (.string ⟨#[]⟩) (.int .i64 0) (.slice none 0 0) (.int .i64 0) (.int .i64 0) (.int .i64 0))
              have hB9 := blk_eight R15.out (.int .i64 0) (.int .i64 0) (.string ⟨#[]⟩) (.int .i64 0) (.slice none 0 0) (.int .i64 0) (.int .i64 0) (.int .i64 0)
              have hW9 := below_eight W15.out (Nat.le_refl w.heap.size) (.int .i64 0) (.int .i64 0) (.string ⟨#[]⟩) (.int .i64 0) (.slice none 0 0) (.int .i64 0) (.int .i64 0) (.int .i64 0)
              generalize setEight w15 w.heap.size (.int .i64 0) (.int .i64 0) (.string ⟨#[]⟩) (.int .i64 0) (.slice none 0 0) (.int .i64 0) (.int .i64 0) (.int .i64 0) = W9 at hB9 hW9 ⊢
              have hcell := hB9.cell; have hfree := hB9.free; have hlt9 := hB9.lt
              clear hcR hfR hcM hRl
              refine bodyPost_ret (v := .tuple #[.agg #[.int .i64 0, .int .i64 0, .string ⟨#[]⟩, .int .i64 0, .slice none 0 0, .int .i64 0, .int .i64 0, .int .i64 0], .int .i64 6]) ?_ rfl ?_
              · simp [results, Try.results25, go_sem, hcell, hfree, hlt9]
              · rw [HG.out]
                exact ⟨none, 0, 0, rfl, World.ownsRow_nil _ _ _ _, hW9⟩
          · have y2 : (p.2 != 0) = true := by simpa using z2
            have HG : Hid (getC b.data.toList = (.none, 6)) := Lib.hid (by rw [Hgt.out, if_neg (by simpa using z1), if_pos (.inl z2)])
            clear z1 z2
            go_wp2_with fail
            change bodyPost _ _ _ _ _ (setEight w15 w.heap.size (.int .i64 0) (.int .i64 0) (.string ⟨#[]⟩) (.int .i64 0) (.slice none 0 0) (.int .i64 0) (.int .i64 0) (.int .i64 0))
            have hB9 := blk_eight R15.out (.int .i64 0) (.int .i64 0) (.string ⟨#[]⟩) (.int .i64 0) (.slice none 0 0) (.int .i64 0) (.int .i64 0) (.int .i64 0)
            have hW9 := below_eight W15.out (Nat.le_refl w.heap.size) (.int .i64 0) (.int .i64 0) (.string ⟨#[]⟩) (.int .i64 0) (.slice none 0 0) (.int .i64 0) (.int .i64 0) (.int .i64 0)
            generalize setEight w15 w.heap.size (.int .i64 0) (.int .i64 0) (.string ⟨#[]⟩) (.int .i64 0) (.slice none 0 0) (.int .i64 0) (.int .i64 0) (.int .i64 0) = W9 at hB9 hW9 ⊢
            have hcell := hB9.cell; have hfree := hB9.free; have hlt9 := hB9.lt
            clear hcR hfR hcM hRl
            refine bodyPost_ret (v := .tuple #[.agg #[.int .i64 0, .int .i64 0, .string ⟨#[]⟩, .int .i64 0, .slice none 0 0, .int .i64 0, .int .i64 0, .int .i64 0], .int .i64 6]) ?_ rfl ?_
            · simp [results, Try.results25, go_sem, hcell, hfree, hlt9]
            · rw [HG.out]
              exact ⟨none, 0, 0, rfl, World.ownsRow_nil _ _ _ _, hW9⟩
        · have y1 : (endL b2.2.1 b2.2.2 != 0) = true := by simpa using z1
          have HG : Hid (getC b.data.toList = (.none, endL b2.2.1 b2.2.2)) := Lib.hid (by rw [Hgt.out, if_pos z1])
          clear z1
          go_wp2_with fail
          change bodyPost _ _ _ _ _ (setEight w14 w.heap.size (.int .i64 0) (.int .i64 0) (.string ⟨#[]⟩) (.int .i64 0) (.slice none 0 0) (.int .i64 0) (.int .i64 0) (.int .i64 0))
          have hB9 := blk_eight R14.out (.int .i64 0) (.int .i64 0) (.string ⟨#[]⟩) (.int .i64 0) (.slice none 0 0) (.int .i64 0) (.int .i64 0) (.int .i64 0)
          have hW9 := below_eight W14.out (Nat.le_refl w.heap.size) (.int .i64 0) (.int .i64 0) (.string ⟨#[]⟩) (.int .i64 0) (.slice none 0 0) (.int .i64 0) (.int .i64 0) (.int .i64 0)
          generalize setEight w14 w.heap.size (.int .i64 0) (.int .i64 0) (.string ⟨#[]⟩) (.int .i64 0) (.slice none 0 0) (.int .i64 0) (.int .i64 0) (.int .i64 0) = W9 at hB9 hW9 ⊢
          have hcell := hB9.cell; have hfree := hB9.free; have hlt9 := hB9.lt
          clear hcR hfR hcM hRl
          refine bodyPost_ret (v := .tuple #[.agg #[.int .i64 0, .int .i64 0, .string ⟨#[]⟩, .int .i64 0, .slice none 0 0, .int .i64 0, .int .i64 0, .int .i64 0], .int .i64 (endL b2.2.1 b2.2.2)]) ?_ rfl ?_
          · simp [results, Try.results25, go_sem, hcell, hfree, hlt9]
          · rw [HG.out]
            exact ⟨none, 0, 0, rfl, World.ownsRow_nil _ _ _ _, hW9⟩
      · have d1n : decide (0 < r) = true := by simpa using d1
        go_wp2_with fail
        refine hpar.mono ?_
        rintro y w9 ⟨rfl, rfl⟩
        go_wp2_with fail
        refine (HV0.out _ I.out).mono ?_
        rintro y w10 ⟨rfl, hi, hb⟩
        have R10 := Lib.hid (R.out.keptBy hb (by omega)); have M10 := Lib.hid (M.out.keptBy hb (by omega))
        have O10 := Lib.hid (O.out.kept hb (by cases hq : (Value.slice A acc.length cap).ownBlock with | none => exact .inl rfl | some q => exact .inr (fun e => by have := (O.out.lt q hq).1; injection e with e; omega)))
        have W10 := Lib.hid (W.out.grown hb (by exact W.out.size) (fun q hq => by injection hq with hq; omega))
        have I10 := Lib.hid hi
        clear hb hi
        go_wp2_with fail
        refine (HV1.out _ I10.out).mono ?_
        rintro y w11 ⟨rfl, hi, hb⟩
        have R11 := Lib.hid (R10.out.keptBy hb (by omega)); have M11 := Lib.hid (M10.out.keptBy hb (by omega))
        have O11 := Lib.hid (O10.out.kept hb (by cases hq : (Value.slice A acc.length cap).ownBlock with | none => exact .inl rfl | some q => exact .inr (fun e => by have := (O10.out.lt q hq).1; injection e with e; omega)))
        have W11 := Lib.hid (W10.out.grown hb (by exact W10.out.size) (fun q hq => by injection hq with hq; omega))
        have I11 := Lib.hid hi
        clear hb hi
        go_wp2_with fail
        refine (HV2.out _ I11.out).mono ?_
        rintro y w12 ⟨rfl, hi, hb⟩
        have R12 := Lib.hid (R11.out.keptBy hb (by omega)); have M12 := Lib.hid (M11.out.keptBy hb (by omega))
        have O12 := Lib.hid (O11.out.kept hb (by cases hq : (Value.slice A acc.length cap).ownBlock with | none => exact .inl rfl | some q => exact .inr (fun e => by have := (O11.out.lt q hq).1; injection e with e; omega)))
        have W12 := Lib.hid (W11.out.grown hb (by exact W11.out.size) (fun q hq => by injection hq with hq; omega))
        have I12 := Lib.hid hi
        clear hb hi
        obtain ⟨w13, hw13⟩ : ∃ w13, ((w12.setCell ⟨w6.heap.size, 5, none⟩ (.int .i64 n0)).setCell ⟨w6.heap.size, 6, none⟩ (.int .i64 n1)).setCell ⟨w6.heap.size, 7, none⟩ (.int .i64 n2) = w13 := ⟨_, rfl⟩
        have hM13 : BlkIs w13 w6.heap.size 26 #[.int .i64 (kk : Nat), .int .i64 tt, .string ss, .int .i64 xx, .slice A acc.length cap, .int .i64 n0, .int .i64 n1, .int .i64 n2] := by rw [← hw13]; exact ((M12.out.put 5 _).put 6 _).put 7 _
        have hI13 : InIs w13 W0.heap.size g b2.2.1 b2.2.2 := by rw [← hw13]; exact ((I12.out.far (by omega) _).far (by omega) _).far (by omega) _
        have hR13 : BlkIs w13 w.heap.size 26 #[.int .i64 0, .int .i64 0, .string ⟨#[]⟩, .int .i64 0, .slice none 0 0, .int .i64 0, .int .i64 0, .int .i64 0] := by rw [← hw13]; exact ((R12.out.far (by show w.heap.size ≠ w6.heap.size; omega) _).far (by show w.heap.size ≠ w6.heap.size; omega) _).far (by show w.heap.size ≠ w6.heap.size; omega) _
        have hO13 : w13.ownsRow (w6.heap.size + 1) 33 4 (.slice A acc.length cap) acc.length (evVs acc) := by rw [← hw13]; exact own_far (a := ⟨w6.heap.size, 7, none⟩) (own_far (a := ⟨w6.heap.size, 6, none⟩) (own_far (a := ⟨w6.heap.size, 5, none⟩) O12.out (fun e => by have := (O12.out.lt _ e).1; simp at this; omega) _) (fun e => by have := (O12.out.lt _ e).1; simp at this; omega) _) (fun e => by have := (O12.out.lt _ e).1; simp at this; omega) _
        have hW13 : Below w.heap.size w w13 := by rw [← hw13]; exact ((W12.out.setCell (p := ⟨w6.heap.size, 5, none⟩) (by show w.heap.size ≤ w6.heap.size; omega) _).setCell (p := ⟨w6.heap.size, 6, none⟩) (by show w.heap.size ≤ w6.heap.size; omega) _).setCell (p := ⟨w6.heap.size, 7, none⟩) (by show w.heap.size ≤ w6.heap.size; omega) _
        have M13 := Lib.hid hM13; have I13 := Lib.hid hI13; have R13 := Lib.hid hR13; have O13 := Lib.hid hO13; have W13 := Lib.hid hW13
        have hc12 := M12.out.cell; have hf12 := M12.out.free; have hl12 := M12.out.lt
        clear hM13 hI13 hR13 hO13 hW13 hm4 hmf hmlt
        go_wp2_with fail
        (try rw [hw13])
        clear hc12 hf12 hl12
        refine (inEnd_any g W0.heap.size b2.2.1 b2.2.2 w13 I13.out (by omega)).mono ?_
        rintro y w14 ⟨rfl, hb, hbe⟩
        have R14 := Lib.hid (R13.out.keptBy hb (by omega)); have M14 := Lib.hid (M13.out.keptBy hb (by omega))
        have O14 := Lib.hid (O13.out.kept hb (by cases hq : (Value.slice A acc.length cap).ownBlock with | none => exact .inl rfl | some q => exact .inr (fun e => by have := (O13.out.lt q hq).1; injection e with e; omega)))
        have W14 := Lib.hid (W13.out.grown hb (by exact W13.out.size) (fun q hq => by injection hq with hq; omega))
        clear hb hbe hw13
        have hcR := R14.out.cell; have hfR := R14.out.free; have hcM := M14.out.cell; have hRl := R14.out.lt
        by_cases z1 : endL b2.2.1 b2.2.2 = 0
        · have y1 : (endL b2.2.1 b2.2.2 != 0) = false := by simpa using z1
          go_wp2_with fail
          refine (Hput.out w14 (SlR.own O14.out)).mono ?_
          rintro y w15 ⟨rfl, hb⟩
          have R15 := Lib.hid (R14.out.below hb R14.out.lt); have M15 := Lib.hid (M14.out.below hb M14.out.lt)
          have O15 := Lib.hid (own_below O14.out hb (fun q hq => (O14.out.lt q hq).2)); have W15 := Lib.hid (W14.out.trans (hb.mono W14.out.size))
          clear hb hcR hfR hcM hRl
          have hcR := R15.out.cell; have hfR := R15.out.free; have hcM := M15.out.cell; have hRl := R15.out.lt
          by_cases z2 : p.2 = 0
          · have y2 : (p.2 != 0) = false := by simpa using z2
            by_cases z3 : p.1 = b.data.toList
            · have y3 : (p.1 == b.toList) = true := by rw [ByteArray.toList_eq]; simpa using z3
              have HG : Hid (getC b.data.toList = (⟨(kk : Nat), tt, ss, xx, acc, n0, n1, n2⟩, 0)) := Lib.hid (by rw [Hgt.out, if_neg (by simpa using z1), if_neg (by rintro (h | h); exact h z2; exact h z3)])
              clear z1 z2 z3
              go_wp2_with fail
              change bodyPost _ _ _ _ _ (setEight w15 w.heap.size (.int .i64 (kk : Nat)) (.int .i64 tt) (.string ss) (.int .i64 xx) (.slice A acc.length cap) (.int .i64 n0) (.int .i64 n1) (.int .i64 n2))
              have hB9 := blk_eight R15.out (.int .i64 (kk : Nat)) (.int .i64 tt) (.string ss) (.int .i64 xx) (.slice A acc.length cap) (.int .i64 n0) (.int .i64 n1) (.int .i64 n2)
              have hW9 := below_eight W15.out (Nat.le_refl w.heap.size) (.int .i64 (kk : Nat)) (.int .i64 tt) (.string ss) (.int .i64 xx) (.slice A acc.length cap) (.int .i64 n0) (.int .i64 n1) (.int .i64 n2)
              have hO9 := own_eight (g := w.heap.size) O15.out (fun e => by have := (O15.out.lt _ e).1; omega) (.int .i64 (kk : Nat)) (.int .i64 tt) (.string ss) (.int .i64 xx) (.slice A acc.length cap) (.int .i64 n0) (.int .i64 n1) (.int .i64 n2)
              generalize setEight w15 w.heap.size (.int .i64 (kk : Nat)) (.int .i64 tt) (.string ss) (.int .i64 xx) (.slice A acc.length cap) (.int .i64 n0) (.int .i64 n1) (.int .i64 n2) = W9 at hB9 hW9 hO9 ⊢
              have hcell := hB9.cell; have hfree := hB9.free; have hlt9 := hB9.lt
              clear hcR hfR hcM hRl
              refine bodyPost_ret (v := .tuple #[.agg #[.int .i64 (kk : Nat), .int .i64 tt, .string ss, .int .i64 xx, .slice A acc.length cap, .int .i64 n0, .int .i64 n1, .int .i64 n2], .int .i64 0]) ?_ rfl ?_
              · simp [results, Try.results25, go_sem, hcell, hfree, hlt9]
              · rw [HG.out]
                exact ⟨A, acc.length, cap, rfl, own_baseE hO9 (by omega), hW9⟩
            · have y3 : (p.1 == b.toList) = false := by rw [ByteArray.toList_eq]; simpa using z3
              have HG : Hid (getC b.data.toList = (.none, 6)) := Lib.hid (by rw [Hgt.out, if_neg (by simpa using z1), if_pos (.inr z3)])
              clear z1 z2 z3
              go_wp2_with fail
              change bodyPost _ _ _ _ _ (setEight w15 w.heap.size (.int .i64 0) (.int .i64 0) (.string ⟨#[]⟩) (.int .i64 0) (.slice none 0 0) (.int .i64 0) (.int .i64 0) (.int .i64 0))
              have hB9 := blk_eight R15.out (.int .i64 0) (.int .i64 0) (.string ⟨#[]⟩) (.int .i64 0) (.slice none 0 0) (.int .i64 0) (.int .i64 0) (.int .i64 0)
              have hW9 := below_eight W15.out (Nat.le_refl w.heap.size) (.int .i64 0) (.int .i64 0) (.string ⟨#[]⟩) (.int .i64 0) (.slice none 0 0) (.int .i64 0) (.int .i64 0) (.int .i64 0)
              generalize setEight w15 w.heap.size (.int .i64 0) (.int .i64 0) (.string ⟨#[]⟩) (.int .i64 0) (.slice none 0 0) (.int .i64 0) (.int .i64 0) (.int .i64 0) = W9 at hB9 hW9 ⊢
              have hcell := hB9.cell; have hfree := hB9.free; have hlt9 := hB9.lt
              clear hcR hfR hcM hRl
              refine bodyPost_ret (v := .tuple #[.agg #[.int .i64 0, .int .i64 0, .string ⟨#[]⟩, .int .i64 0, .slice none 0 0, .int .i64 0, .int .i64 0, .int .i64 0], .int .i64 6]) ?_ rfl ?_
              · simp [results, Try.results25, go_sem, hcell, hfree, hlt9]
              · rw [HG.out]
                exact ⟨none, 0, 0, rfl, World.ownsRow_nil _ _ _ _, hW9⟩
          · have y2 : (p.2 != 0) = true := by simpa using z2
            have HG : Hid (getC b.data.toList = (.none, 6)) := Lib.hid (by rw [Hgt.out, if_neg (by simpa using z1), if_pos (.inl z2)])
            clear z1 z2
            go_wp2_with fail
            change bodyPost _ _ _ _ _ (setEight w15 w.heap.size (.int .i64 0) (.int .i64 0) (.string ⟨#[]⟩) (.int .i64 0) (.slice none 0 0) (.int .i64 0) (.int .i64 0) (.int .i64 0))
            have hB9 := blk_eight R15.out (.int .i64 0) (.int .i64 0) (.string ⟨#[]⟩) (.int .i64 0) (.slice none 0 0) (.int .i64 0) (.int .i64 0) (.int .i64 0)
            have hW9 := below_eight W15.out (Nat.le_refl w.heap.size) (.int .i64 0) (.int .i64 0) (.string ⟨#[]⟩) (.int .i64 0) (.slice none 0 0) (.int .i64 0) (.int .i64 0) (.int .i64 0)
            generalize setEight w15 w.heap.size (.int .i64 0) (.int .i64 0) (.string ⟨#[]⟩) (.int .i64 0) (.slice none 0 0) (.int .i64 0) (.int .i64 0) (.int .i64 0) = W9 at hB9 hW9 ⊢
            have hcell := hB9.cell; have hfree := hB9.free; have hlt9 := hB9.lt
            clear hcR hfR hcM hRl
            refine bodyPost_ret (v := .tuple #[.agg #[.int .i64 0, .int .i64 0, .string ⟨#[]⟩, .int .i64 0, .slice none 0 0, .int .i64 0, .int .i64 0, .int .i64 0], .int .i64 6]) ?_ rfl ?_
            · simp [results, Try.results25, go_sem, hcell, hfree, hlt9]
            · rw [HG.out]
              exact ⟨none, 0, 0, rfl, World.ownsRow_nil _ _ _ _, hW9⟩
        · have y1 : (endL b2.2.1 b2.2.2 != 0) = true := by simpa using z1
          have HG : Hid (getC b.data.toList = (.none, endL b2.2.1 b2.2.2)) := Lib.hid (by rw [Hgt.out, if_pos z1])
          clear z1
          go_wp2_with fail
          change bodyPost _ _ _ _ _ (setEight w14 w.heap.size (.int .i64 0) (.int .i64 0) (.string ⟨#[]⟩) (.int .i64 0) (.slice none 0 0) (.int .i64 0) (.int .i64 0) (.int .i64 0))
          have hB9 := blk_eight R14.out (.int .i64 0) (.int .i64 0) (.string ⟨#[]⟩) (.int .i64 0) (.slice none 0 0) (.int .i64 0) (.int .i64 0) (.int .i64 0)
          have hW9 := below_eight W14.out (Nat.le_refl w.heap.size) (.int .i64 0) (.int .i64 0) (.string ⟨#[]⟩) (.int .i64 0) (.slice none 0 0) (.int .i64 0) (.int .i64 0) (.int .i64 0)
          generalize setEight w14 w.heap.size (.int .i64 0) (.int .i64 0) (.string ⟨#[]⟩) (.int .i64 0) (.slice none 0 0) (.int .i64 0) (.int .i64 0) (.int .i64 0) = W9 at hB9 hW9 ⊢
          have hcell := hB9.cell; have hfree := hB9.free; have hlt9 := hB9.lt
          clear hcR hfR hcM hRl
          refine bodyPost_ret (v := .tuple #[.agg #[.int .i64 0, .int .i64 0, .string ⟨#[]⟩, .int .i64 0, .slice none 0 0, .int .i64 0, .int .i64 0, .int .i64 0], .int .i64 (endL b2.2.1 b2.2.2)]) ?_ rfl ?_
          · simp [results, Try.results25, go_sem, hcell, hfree, hlt9]
          · rw [HG.out]
            exact ⟨none, 0, 0, rfl, World.ownsRow_nil _ _ _ _, hW9⟩
end Go.Proofs.Ytfpalamoaflilaa
