/- wire.Get: bytes read as a message. -/
import Derived.Test.YtadhboioaacaeaaGreatCWireTellsWirePut2
import Derived.Test.YtadhboioaacaeaaGreatCWireTellsTextG
import Derived.Test.YtadhboioaacaeaaGreatCWireTellsSliceStep
import Derived.Test.YtadhboioaacaeaaGreatCWireTellsBookT

namespace Go.Proofs.YtadhboioaacaeaaGreat
open Go.RowKit
set_option maxHeartbeats 4000000
set_option maxRecDepth 100000
set_option linter.unusedVariables false

theorem info_strG : (Tryz.prog.info? 9).map (fun i => (i.zero, i.size, i.bytes)) = some (some (.string ByteArray.empty), 1, 16) := by kernel_rfl

/-- a struct of seven cells stored whole -/
def setSeven (w : World) (g : Nat) (d0 d1 d2 d3 d4 d5 d6 : Value) : World := ((((((w.setCell ⟨g, 0, none⟩ d0).setCell ⟨g, 1, none⟩ d1).setCell ⟨g, 2, none⟩ d2).setCell ⟨g, 3, none⟩ d3).setCell ⟨g, 4, none⟩ d4).setCell ⟨g, 5, none⟩ d5).setCell ⟨g, 6, none⟩ d6
theorem blk_seven {w : World} {g : Nat} {t : TypeId} {c0 c1 c2 c3 c4 c5 c6 : Value} (h : BlkIs w g t #[c0, c1, c2, c3, c4, c5, c6]) (d0 d1 d2 d3 d4 d5 d6 : Value) : BlkIs (setSeven w g d0 d1 d2 d3 d4 d5 d6) g t #[d0, d1, d2, d3, d4, d5, d6] :=
  ((((((h.put 0 d0).put 1 d1).put 2 d2).put 3 d3).put 4 d4).put 5 d5).put 6 d6
theorem below_seven {a w : World} {B g : Nat} (h : Below B a w) (hg : B ≤ g) (d0 d1 d2 d3 d4 d5 d6 : Value) : Below B a (setSeven w g d0 d1 d2 d3 d4 d5 d6) :=
  ((((((h.setCell (p := ⟨g, 0, none⟩) hg d0).setCell (p := ⟨g, 1, none⟩) hg d1).setCell (p := ⟨g, 2, none⟩) hg d2).setCell (p := ⟨g, 3, none⟩) hg d3).setCell (p := ⟨g, 4, none⟩) hg d4).setCell (p := ⟨g, 5, none⟩) hg d5).setCell (p := ⟨g, 6, none⟩) hg d6
theorem own_seven {w : World} {base n g : Nat} {e : TypeId} {v : Value} {xs : List Value} (h : w.ownsRow base e 1 v n xs) (hg : v.ownBlock ≠ some g) (d0 d1 d2 d3 d4 d5 d6 : Value) : (setSeven w g d0 d1 d2 d3 d4 d5 d6).ownsRow base e 1 v n xs :=
  own_far (a := ⟨g, 6, none⟩) (own_far (a := ⟨g, 5, none⟩) (own_far (a := ⟨g, 4, none⟩) (own_far (a := ⟨g, 3, none⟩) (own_far (a := ⟨g, 2, none⟩) (own_far (a := ⟨g, 1, none⟩) (own_far (a := ⟨g, 0, none⟩) h hg d0) hg d1) hg d2) hg d3) hg d4) hg d5) hg d6

theorem wireGet_any (b : ByteArray) (w : World) (hb : b.size ≤ 100000) :
    Calls Tryz.prog 10 #[.string b] w fun x w' => ∃ A n cap, x = .returned (.tuple #[.agg #[.int .i64 (getW b.data.toList).1.k, .int .i64 (getW b.data.toList).1.t, .int .i64 (getW b.data.toList).1.l, .int .i64 (getW b.data.toList).1.e, .int .i64 (getW b.data.toList).1.c, .bool (getW b.data.toList).1.ok, .slice A n cap], .int .i64 (getW b.data.toList).2]) ∧
      w'.ownsRow w.heap.size 9 1 (.slice A n cap) n (strVs (getW b.data.toList).1.es) ∧ Below w.heap.size w w' := by
  have hop := open_any b (w.alloc (.cells #[.int .i64 0, .int .i64 0, .int .i64 0, .int .i64 0, .int .i64 0, .bool false, .slice none 0 0] 24)) (by omega)
  have hR := BlkIs.new w 24 #[.int .i64 0, .int .i64 0, .int .i64 0, .int .i64 0, .int .i64 0, .bool false, .slice none 0 0]
  have hb0 : Below w.heap.size w (w.alloc (.cells #[.int .i64 0, .int .i64 0, .int .i64 0, .int .i64 0, .int .i64 0, .bool false, .slice none 0 0] 24)) := (Below.refl w.heap.size w).alloc (Nat.le_refl _) _
  have hsl := size_list b
  have hol : (openL b.data.toList).1.length ≤ 100000 := by
    unfold openL; split
    · simp
    · split
      · simp only [List.length_drop]; omega
      · simp
  obtain ⟨o, ho⟩ : ∃ o, openL b.data.toList = o := ⟨_, rfl⟩
  rw [ho] at hop hol
  have Ho := Lib.hid ho; have Hop := Lib.hid hop; have HR := Lib.hid hR; have Hb0 := Lib.hid hb0
  clear ho hop hR hb0 hsl
  by_cases hoe : o.2 = 0
  · have hg : getW b.data.toList = if (endL (readW o.1).2.1 (readW o.1).2.2 ≠ 0 ∨ (putW (readW o.1).1).2 ≠ 0) ∨ (putW (readW o.1).1).1 ≠ b.data.toList then (.none, 6) else ((readW o.1).1, 0) := by
      unfold getW; rw [Ho.out]; simp only [ne_eq, hoe, not_true_eq_false, if_false]
    obtain ⟨a0, h0⟩ : ∃ a, inTake 1 o.1 0 = a := ⟨_, rfl⟩
    obtain ⟨a1, h1⟩ : ∃ a, inTake 4 a0.2.1 a0.2.2 = a := ⟨_, rfl⟩
    obtain ⟨a2, h2⟩ : ∃ a, inTake 4 a1.2.1 a1.2.2 = a := ⟨_, rfl⟩
    obtain ⟨a3, h3⟩ : ∃ a, inTake 4 a2.2.1 a2.2.2 = a := ⟨_, rfl⟩
    obtain ⟨a4, h4⟩ : ∃ a, inTake 4 a3.2.1 a3.2.2 = a := ⟨_, rfl⟩
    obtain ⟨a5, h5⟩ : ∃ a, inTake 1 a4.2.1 a4.2.2 = a := ⟨_, rfl⟩
    obtain ⟨a6, h6⟩ : ∃ a, inTake 1 a5.2.1 a5.2.2 = a := ⟨_, rfl⟩
    have hrd : readW o.1 = (⟨(beVal a0.1 : Nat), (beVal a1.1 : Nat), (beVal a2.1 : Nat), (beVal a3.1 : Nat), (beVal a4.1 : Nat), (beVal a5.1 : Int) == 1, (rdTexts (beVal a6.1) a6.2.1 a6.2.2).1⟩, (rdTexts (beVal a6.1) a6.2.1 a6.2.2).2.1, (rdTexts (beVal a6.1) a6.2.1 a6.2.2).2.2) := by
      unfold readW; simp only [h0, h1, h2, h3, h4, h5, h6]
    have l0 : a0.2.1.length ≤ 100000 := by rw [← h0]; exact Nat.le_trans (inTake_rest_few _ _ _) hol
    have l1 : a1.2.1.length ≤ 100000 := by rw [← h1]; exact Nat.le_trans (inTake_rest_few _ _ _) l0
    have l2 : a2.2.1.length ≤ 100000 := by rw [← h2]; exact Nat.le_trans (inTake_rest_few _ _ _) l1
    have l3 : a3.2.1.length ≤ 100000 := by rw [← h3]; exact Nat.le_trans (inTake_rest_few _ _ _) l2
    have l4 : a4.2.1.length ≤ 100000 := by rw [← h4]; exact Nat.le_trans (inTake_rest_few _ _ _) l3
    have l5 : a5.2.1.length ≤ 100000 := by rw [← h5]; exact Nat.le_trans (inTake_rest_few _ _ _) l4
    have l6 : a6.2.1.length ≤ 100000 := by rw [← h6]; exact Nat.le_trans (inTake_rest_few _ _ _) l5
    have n6 : beVal a6.1 < 256 := by rw [← h6]; exact inNum_lt 1 _ _
    obtain ⟨so, hso⟩ : ∃ so : ByteArray, (⟨o.1.toArray⟩ : ByteArray) = so := ⟨_, rfl⟩
    have hsl : so.data.toList = o.1 := by rw [← hso]
    have hsz : so.size ≤ 1000000000 := by rw [size_list, hsl]; omega
    have hop2 := Hop.out
    rw [hso, hoe] at hop2
    have U0 : ∀ (g base : Nat) (w : World), InIs w base g o.1 0 → Calls Tryz.prog 35 #[.pointer (some ⟨g, 0, none⟩)] w fun e w' => e = .returned (.int .i64 (beVal a0.1 : Nat)) ∧ InIs w' base g a0.2.1 a0.2.2 ∧ w.grownBy w' (some g) := fun g base w h => by have := inU8G g base o.1 0 w h (by omega); unfold inNum at this; rwa [h0] at this
    have U1 : ∀ (g base : Nat) (w : World), InIs w base g a0.2.1 a0.2.2 → Calls Tryz.prog 36 #[.pointer (some ⟨g, 0, none⟩)] w fun e w' => e = .returned (.int .i64 (beVal a1.1 : Nat)) ∧ InIs w' base g a1.2.1 a1.2.2 ∧ w.grownBy w' (some g) := fun g base w h => by have := inU32G g base _ _ w h (by omega); unfold inNum at this; rwa [h1] at this
    have U2 : ∀ (g base : Nat) (w : World), InIs w base g a1.2.1 a1.2.2 → Calls Tryz.prog 36 #[.pointer (some ⟨g, 0, none⟩)] w fun e w' => e = .returned (.int .i64 (beVal a2.1 : Nat)) ∧ InIs w' base g a2.2.1 a2.2.2 ∧ w.grownBy w' (some g) := fun g base w h => by have := inU32G g base _ _ w h (by omega); unfold inNum at this; rwa [h2] at this
    have U3 : ∀ (g base : Nat) (w : World), InIs w base g a2.2.1 a2.2.2 → Calls Tryz.prog 36 #[.pointer (some ⟨g, 0, none⟩)] w fun e w' => e = .returned (.int .i64 (beVal a3.1 : Nat)) ∧ InIs w' base g a3.2.1 a3.2.2 ∧ w.grownBy w' (some g) := fun g base w h => by have := inU32G g base _ _ w h (by omega); unfold inNum at this; rwa [h3] at this
    have U4 : ∀ (g base : Nat) (w : World), InIs w base g a3.2.1 a3.2.2 → Calls Tryz.prog 36 #[.pointer (some ⟨g, 0, none⟩)] w fun e w' => e = .returned (.int .i64 (beVal a4.1 : Nat)) ∧ InIs w' base g a4.2.1 a4.2.2 ∧ w.grownBy w' (some g) := fun g base w h => by have := inU32G g base _ _ w h (by omega); unfold inNum at this; rwa [h4] at this
    have U5 : ∀ (g base : Nat) (w : World), InIs w base g a4.2.1 a4.2.2 → Calls Tryz.prog 35 #[.pointer (some ⟨g, 0, none⟩)] w fun e w' => e = .returned (.int .i64 (beVal a5.1 : Nat)) ∧ InIs w' base g a5.2.1 a5.2.2 ∧ w.grownBy w' (some g) := fun g base w h => by have := inU8G g base _ _ w h (by omega); unfold inNum at this; rwa [h5] at this
    have U6 : ∀ (g base : Nat) (w : World), InIs w base g a5.2.1 a5.2.2 → Calls Tryz.prog 35 #[.pointer (some ⟨g, 0, none⟩)] w fun e w' => e = .returned (.int .i64 (beVal a6.1 : Nat)) ∧ InIs w' base g a6.2.1 a6.2.2 ∧ w.grownBy w' (some g) := fun g base w h => by have := inU8G g base _ _ w h (by omega); unfold inNum at this; rwa [h6] at this
    rw [hrd] at hg
    have HU0 := Lib.hid U0; have HU1 := Lib.hid U1; have HU2 := Lib.hid U2; have HU3 := Lib.hid U3; have HU4 := Lib.hid U4; have HU5 := Lib.hid U5; have HU6 := Lib.hid U6
    have Hg := Lib.hid hg; have Hop2 := Lib.hid hop2; have Hsl := Lib.hid hsl
    clear U0 U1 U2 U3 U4 U5 U6 hg hop2 hsl hso hrd h0 h1 h2 h3 h4 h5 h6 hoe l0 l1 l2 l3 l4 l5 hol
    go_enter Tryz.func10, Tryz.ntmps10
    go_wp2_with fail
    refine Hop2.out.mono ?_
    rintro x w1 ⟨rfl, hb1⟩
    have R1 := Lib.hid (HR.out.below hb1 HR.out.lt)
    have W1 := Lib.hid (Hb0.out.trans (hb1.mono (by simp)))
    clear hb1
    go_wp2_with fail
    refine (newIn_any so _ hsz).mono ?_
    rintro x w2 ⟨g, rfl, hi, hb2⟩
    rw [Hsl.out] at hi
    have R2 := Lib.hid (R1.out.below hb2 R1.out.lt)
    have W2 := Lib.hid (W1.out.trans (hb2.mono W1.out.size))
    have I2 := Lib.hid hi
    have hgr : w.heap.size < g := Nat.lt_of_lt_of_le R1.out.lt hi.1
    clear hb2 hi
    go_wp2_with fail
    refine (HU0.out g w1.heap.size _ I2.out).mono ?_
    rintro x w3 ⟨rfl, hi, hb⟩
    have R3 := Lib.hid (R2.out.keptBy hb (by omega))
    have W3 := Lib.hid (W2.out.grown hb (by exact W2.out.size) (fun q hq => by injection hq with hq; omega))
    have I3 := Lib.hid hi
    clear hb hi
    go_wp2_with fail
    refine (HU1.out g w1.heap.size _ I3.out).mono ?_
    rintro x w4 ⟨rfl, hi, hb⟩
    have R4 := Lib.hid (R3.out.keptBy hb (by omega))
    have W4 := Lib.hid (W3.out.grown hb (by exact W3.out.size) (fun q hq => by injection hq with hq; omega))
    have I4 := Lib.hid hi
    clear hb hi
    go_wp2_with fail
    refine (HU2.out g w1.heap.size _ I4.out).mono ?_
    rintro x w5 ⟨rfl, hi, hb⟩
    have R5 := Lib.hid (R4.out.keptBy hb (by omega))
    have W5 := Lib.hid (W4.out.grown hb (by exact W4.out.size) (fun q hq => by injection hq with hq; omega))
    have I5 := Lib.hid hi
    clear hb hi
    go_wp2_with fail
    refine (HU3.out g w1.heap.size _ I5.out).mono ?_
    rintro x w6 ⟨rfl, hi, hb⟩
    have R6 := Lib.hid (R5.out.keptBy hb (by omega))
    have W6 := Lib.hid (W5.out.grown hb (by exact W5.out.size) (fun q hq => by injection hq with hq; omega))
    have I6 := Lib.hid hi
    clear hb hi
    go_wp2_with fail
    refine (HU4.out g w1.heap.size _ I6.out).mono ?_
    rintro x w7 ⟨rfl, hi, hb⟩
    have R7 := Lib.hid (R6.out.keptBy hb (by omega))
    have W7 := Lib.hid (W6.out.grown hb (by exact W6.out.size) (fun q hq => by injection hq with hq; omega))
    have I7 := Lib.hid hi
    clear hb hi
    go_wp2_with fail
    refine (HU5.out g w1.heap.size _ I7.out).mono ?_
    rintro x w8 ⟨rfl, hi, hb⟩
    have R8 := Lib.hid (R7.out.keptBy hb (by omega))
    have W8 := Lib.hid (W7.out.grown hb (by exact W7.out.size) (fun q hq => by injection hq with hq; omega))
    have I8 := Lib.hid hi
    clear hb hi
    go_wp2_with fail
    have M8 := BlkIs.new w8 24 #[.int .i64 (beVal a0.1 : Nat), .int .i64 (beVal a1.1 : Nat), .int .i64 (beVal a2.1 : Nat), .int .i64 (beVal a3.1 : Nat), .int .i64 (beVal a4.1 : Nat), .bool ((beVal a5.1 : Int) == 1), .slice none 0 0]
    have I8a := Lib.hid (I8.out.alloc (.cells #[.int .i64 (beVal a0.1 : Nat), .int .i64 (beVal a1.1 : Nat), .int .i64 (beVal a2.1 : Nat), .int .i64 (beVal a3.1 : Nat), .int .i64 (beVal a4.1 : Nat), .bool ((beVal a5.1 : Int) == 1), .slice none 0 0] 24))
    have hg8 : g < w8.heap.size := I8.out.lt
    refine (HU6.out g w1.heap.size _ I8a.out).mono ?_
    rintro x w9 ⟨rfl, hi, hb⟩
    have R9 := Lib.hid ((R8.out.alloc (.cells #[.int .i64 (beVal a0.1 : Nat), .int .i64 (beVal a1.1 : Nat), .int .i64 (beVal a2.1 : Nat), .int .i64 (beVal a3.1 : Nat), .int .i64 (beVal a4.1 : Nat), .bool ((beVal a5.1 : Int) == 1), .slice none 0 0] 24)).keptBy hb (by omega))
    have M9 := Lib.hid (M8.keptBy hb (by omega))
    have W9 := Lib.hid ((W8.out.alloc (by exact W8.out.size) (.cells #[.int .i64 (beVal a0.1 : Nat), .int .i64 (beVal a1.1 : Nat), .int .i64 (beVal a2.1 : Nat), .int .i64 (beVal a3.1 : Nat), .int .i64 (beVal a4.1 : Nat), .bool ((beVal a5.1 : Int) == 1), .slice none 0 0] 24)).grown hb (by have := W8.out.size; simp; omega) (fun q hq => by injection hq with hq; omega))
    have I9 := Lib.hid hi
    clear hb hi M8
    obtain ⟨N, hN⟩ : ∃ N, beVal a6.1 = N := ⟨_, rfl⟩
    obtain ⟨q, hq⟩ : ∃ q, rdTexts N a6.2.1 a6.2.2 = q := ⟨_, rfl⟩
    rw [hN] at n6 Hg ⊢
    rw [hq] at Hg
    have Hq := Lib.hid hq
    obtain ⟨i0, hi0, hz0, hz1, hz2⟩ := info_parts info_strG
    clear hN hq
    go_wp2_with fail
    go_loopw [8] (fun nn wr => ∃ (r : Nat) (bs : List UInt8) (x : Int) (v : Value) (acc : List ByteArray), nn = .int .i64 r ∧ InIs wr w1.heap.size g bs x ∧ BlkIs wr w8.heap.size 24 #[.int .i64 (beVal a0.1 : Nat), .int .i64 (beVal a1.1 : Nat), .int .i64 (beVal a2.1 : Nat), .int .i64 (beVal a3.1 : Nat), .int .i64 (beVal a4.1 : Nat), .bool ((beVal a5.1 : Int) == 1), v] ∧ wr.ownsRow (w8.heap.size + 1) 9 1 v acc.length (strVs acc) ∧ BlkIs wr w.heap.size 24 #[.int .i64 0, .int .i64 0, .int .i64 0, .int .i64 0, .int .i64 0, .bool false, .slice none 0 0] ∧ Below w.heap.size w wr ∧ bs.length ≤ 100000 ∧ acc.length + r ≤ 255 ∧ (∀ s ∈ acc, s.size ≤ 100000) ∧ q = (acc ++ (rdTexts r bs x).1, (rdTexts r bs x).2)) (fun nn _ => (intOf nn).toNat)
    case atStart => exact ⟨N, a6.2.1, a6.2.2, _, [], rfl, I9.out, M9.out, World.ownsRow_nil _ _ _ _, R9.out, W9.out, by omega, by simp; omega, fun s hs => by simp at hs, by rw [Hq.out]; rfl⟩
    case round =>
      obtain ⟨r, bs, x, v, acc, rfl, hi, hM, hown, hR, hW, hbl, har, has, hqq⟩ := hrel
      have hm6 := hM.cell 6
      have hmf := hM.free 6
      simp at hm6
      have hmlt := hM.lt
      have I := Lib.hid hi; have M := Lib.hid hM; have O := Lib.hid hown; have R := Lib.hid hR; have W := Lib.hid hW; have Has := Lib.hid has; have Hqq := Lib.hid hqq
      clear hi hM hown hR hW has hqq
      by_cases hgo : 0 < r ∧ x = 0
      · obtain ⟨hr0, rfl⟩ := hgo
        obtain ⟨r, rfl⟩ : ∃ r', r = r' + 1 := ⟨r - 1, by omega⟩
        have d1 : decide ((0 : Int) < ((r + 1 : Nat) : Int)) = true := by rw [decide_eq_true_iff]; omega
        go_wp2_with fail
        refine (inErr_any g w1.heap.size bs 0 _ I.out).mono ?_
        rintro x w10 ⟨rfl, rfl⟩
        go_wp2_with fail
        obtain ⟨it, hit⟩ : ∃ it, inText 4000 bs 0 = it := ⟨_, rfl⟩
        have ht := inTextG g w1.heap.size 4000 bs 0 wr.drew ⟨I.out.1, I.out.2.drew⟩ (by omega) (by omega)
        rw [hit] at ht
        have hi1 : it.1.length ≤ 100000 := by rw [← hit]; exact Nat.le_trans (inText_first_few _ _ _) hbl
        have hi2 : it.2.1.length ≤ 100000 := by rw [← hit]; exact Nat.le_trans (inText_rest_few _ _ _) hbl
        have hq2 : q = (acc ++ [(⟨it.1.toArray⟩ : ByteArray)] ++ (rdTexts r it.2.1 it.2.2).1, (rdTexts r it.2.1 it.2.2).2) := by rw [Hqq.out, rdTexts_step, hit]; simp
        obtain ⟨T, hT⟩ : ∃ T : ByteArray, (⟨it.1.toArray⟩ : ByteArray) = T := ⟨_, rfl⟩
        have hTs : T.size ≤ 100000 := by rw [← hT, size_mk]; exact hi1
        rw [hT] at ht hq2
        have Ht := Lib.hid ht; have Hq2 := Lib.hid hq2
        clear ht hq2 hit hT hi1
        go_region_law (first
          | (refine step_append_lies _ (by rfl) (.tmp 48) (.tmp 51) _ (by rfl) (w8.heap.size + 1) 9 i0 _ 1 16 Tryz.underlying22 hi0 hz0 hz1 hz2 rfl (by omega) v acc.length (strVs acc) (by simp [Act.eval, Act.put]) (by exact O2.out.alloc _) ⟨wt.heap.size, 0, none⟩ 1 1 [.string T] (by simp [Act.eval, Act.put]) (by rfl) (World.news_of_block (cs := #[.string T]) (heap_alloc_new wt _)) (by simp [Value.oneCell']) (by omega) (by simp only [maxLen]; omega) (by omega) (by simp <;> omega) _ rfl ?_; intro ga ca w3 hown3 hgrow3 hat3 hlt3; have M3 := Lib.hid ((M2.out.alloc (.cells #[.string T] 9)).grown hgrow3 (fun e => by have := (O.out.lt _ e.symm).1; omega)); have q6 := M3.out.cell 6; have q6f := M3.out.free 6; simp at q6)
          | (go_simp; go_at_call 38; (refine Ht.out.mono ?_; rintro e wt ⟨rfl, hi, hgx⟩; have I2 := Lib.hid hi; have M2 := Lib.hid (M.out.drew.keptBy hgx (by omega)); have O2 := Lib.hid (O.out.drew.kept hgx (by cases hq : v.ownBlock with | none => exact .inl rfl | some q => exact .inr (fun e => by have := (O.out.lt q hq).1; injection e with e; omega))); have hszt : w8.heap.size + 1 ≤ wt.heap.size := Nat.le_trans hmlt hgx.size; have hm6t := M2.out.cell 6; have hm6a := (M2.out.alloc (.cells #[.string T] 9)).cell 6; rw [show (#[.int .i64 (beVal a0.1 : Nat), .int .i64 (beVal a1.1 : Nat), .int .i64 (beVal a2.1 : Nat), .int .i64 (beVal a3.1 : Nat), .int .i64 (beVal a4.1 : Nat), .bool ((beVal a5.1 : Int) == 1), v] : Array Value)[6]? = some v from rfl] at hm6t hm6a; clear hi)))
        all_goals
          have hgl : g < wr.heap.size := I.out.2.lt
          have hwl : w.heap.size < wr.heap.size := R.out.lt
          have hv3 : w8.heap.size + 1 ≤ ga := by
            rcases hat3 with h | h
            · exact (O.out.lt ga h).1
            · first
                | (simp at h; omega)
                | (rw [h]; simp; omega)
          have R2t := (R.out.drew.keptBy hgx (by omega)).alloc (.cells #[.string T] 9)
          have I3 := (I2.out.2.alloc (.cells #[.string T] 9)).grown hgrow3 (fun e => by have := (O.out.lt _ e.symm).1; omega)
          have R3 := R2t.grown hgrow3 (fun e => by have := (O.out.lt _ e.symm).1; omega)
          have W2t : Below w.heap.size w (wt.alloc (.cells #[.string T] 9)) := ((below_drewN W.out 1).grown hgx (by exact W.out.size) (fun q hq => by injection hq with hq; omega)).alloc (by have := W.out.size; omega) _
          have W3 := W2t.grown hgrow3 (by simp; omega) (fun q hq => by have := (O.out.lt _ hq).1; omega)
          have I4 := I3.keptBy (grown_set w3 w8.heap.size 6 (.slice (some ⟨ga, 0, none⟩) (acc.length + 1) ca)) (by omega)
          have R4 := R3.keptBy (grown_set w3 w8.heap.size 6 (.slice (some ⟨ga, 0, none⟩) (acc.length + 1) ca)) (by omega)
          have W4 := W3.setCell (p := ⟨w8.heap.size, 6, none⟩) (Nat.le_of_lt (Nat.lt_trans hgr hg8)) (.slice (some ⟨ga, 0, none⟩) (acc.length + 1) ca)
          have M4 := M3.out.put 6 (.slice (some ⟨ga, 0, none⟩) (acc.length + 1) ca)
          have O4 := own_far (a := ⟨w8.heap.size, 6, none⟩) hown3 (by simp [Value.ownBlock]; omega) (.slice (some ⟨ga, 0, none⟩) (acc.length + 1) ca)
          have HI4 := Lib.hid I4; have HR4 := Lib.hid R4; have HW4 := Lib.hid W4; have HM4 := Lib.hid M4; have HO4 := Lib.hid O4
          have hI21 := I2.out.1
          clear R2t I3 R3 W2t W3 I4 R4 W4 M4 O4 hown3 hgrow3
          go_wp2_with fail
          go_roundw
          case rel =>
            refine ⟨r, it.2.1, it.2.2, _, acc ++ [T], by go_num, ⟨hI21, HI4.out⟩, HM4.out, ?_, HR4.out, HW4.out, hi2, by simp; omega, fun s hs => ?_, Hq2.out⟩
            · have := HO4.out
              rw [List.length_append]
              simpa [strVs] using this
            · rcases List.mem_append.1 hs with h | h
              · exact Has.out s h
              · simp at h; rw [h]; exact hTs
          case measure => simp [intOf] <;> omega
      · have hst : (rdTexts r bs x) = ([], bs, x) := by
          by_cases hx : x = 0
          · have : r = 0 := by omega
            subst this; rfl
          · exact rdTexts_stop r bs x hx
        rw [hst] at Hqq
        have hqq : q = (acc, bs, x) := by rw [Hqq.out]; simp
        have hex : decide ((0 : Int) < (r : Int)) = false ∨ (decide ((0 : Int) < (r : Int)) = true ∧ (x == 0) = false) := by
          by_cases h0 : 0 < r
          · exact .inr ⟨by rw [decide_eq_true_iff]; omega, by simp; omega⟩
          · exact .inl (by simp; omega)
        subst hqq
        clear Hqq hst hgo
        obtain ⟨A, cap, rfl, hnc⟩ := own_slice O.out
        obtain ⟨p, hp⟩ : ∃ p, putW ⟨(beVal a0.1 : Nat), (beVal a1.1 : Nat), (beVal a2.1 : Nat), (beVal a3.1 : Nat), (beVal a4.1 : Nat), (beVal a5.1 : Int) == 1, acc⟩ = p := ⟨_, rfl⟩
        have hput := wirePut_any (beVal a0.1 : Nat) (beVal a1.1 : Nat) (beVal a2.1 : Nat) (beVal a3.1 : Nat) (beVal a4.1 : Nat) ((beVal a5.1 : Int) == 1) A acc.length cap wr.heap.size acc wr (SlR.own O.out) (Nat.le_refl _) (by omega) (fun s hs => by have := Has.out s hs; omega)
        rw [hp] at hput
        have hc0 := M.out.cell 0; have hc1 := M.out.cell 1; have hc2 := M.out.cell 2; have hc3 := M.out.cell 3; have hc4 := M.out.cell 4; have hc5 := M.out.cell 5
        simp at hc0 hc1 hc2 hc3 hc4 hc5
        have Hput := Lib.hid hput; have Hp := Lib.hid hp
        clear hput hp
        have hpar : Calls Tryz.prog 37 #[.pointer (some ⟨g, 0, none⟩)] wr fun e w' => e = .returned (.int .i64 x) ∧ wr = w' := inErr_any g w1.heap.size bs x _ I.out
        rcases hex with d1 | ⟨d1, d2⟩
        · have d1n : decide (0 < r) = false := by simpa using d1
          go_wp2_with fail
          refine Hput.out.mono ?_
          rintro y w10 ⟨rfl, hb10⟩
          have I10 := Lib.hid (I.out.keptBelow hb10)
          have M10 := M.out.below hb10 M.out.lt
          have R10 := R.out.below hb10 R.out.lt
          have O10 := own_below O.out hb10 (fun q hq => (O.out.lt q hq).2)
          have W10 := W.out.trans (hb10.mono W.out.size)
          have HM10 := Lib.hid M10; have HR10 := Lib.hid R10; have HO10 := Lib.hid O10; have HW10 := Lib.hid W10
          clear M10 R10 O10 W10 hb10 hc0 hc1 hc2 hc3 hc4 hc5
          go_wp2_with fail
          refine (inEnd_any g w1.heap.size bs x _ I10.out (by omega)).mono ?_
          rintro y w11 ⟨rfl, hg11, hbe11⟩
          have M11 := Lib.hid (HM10.out.keptBy hg11 (by omega))
          have R11 := Lib.hid (HR10.out.keptBy hg11 (by omega))
          have O11 := Lib.hid (HO10.out.kept hg11 (by cases hq : (Value.slice A acc.length cap).ownBlock with | none => exact .inl rfl | some q => exact .inr (fun e => by have := (O.out.lt q hq).1; injection e with e; omega)))
          have W11 := Lib.hid (HW10.out.grown hg11 (by exact HW10.out.size) (fun q hq => by injection hq with hq; omega))
          clear hg11 hbe11
          have hcR := R11.out.cell; have hfR := R11.out.free; have hcM := M11.out.cell; have hRl := R11.out.lt
          by_cases z1 : endL bs x = 0
          · have y1 : (endL bs x != 0) = false := by simpa using z1
            by_cases z2 : p.2 = 0
            · have y2 : (p.2 != 0) = false := by simpa using z2
              by_cases z3 : p.1 = b.data.toList
              · have y3 : (p.1 == b.toList) = true := by rw [ByteArray.toList_eq]; simpa using z3
                have HG : Hid (getW b.data.toList = (⟨(beVal a0.1 : Nat), (beVal a1.1 : Nat), (beVal a2.1 : Nat), (beVal a3.1 : Nat), (beVal a4.1 : Nat), (beVal a5.1 : Int) == 1, acc⟩, 0)) := Lib.hid (by rw [Hg.out, Hp.out, if_neg (by rintro ((h | h) | h); exact h z1; exact h z2; exact h z3)])
                clear z1 z2 z3
                go_wp2_with fail
                change bodyPost _ _ _ _ _ (setSeven w11 w.heap.size (.int .i64 (beVal a0.1 : Nat)) (.int .i64 (beVal a1.1 : Nat)) (.int .i64 (beVal a2.1 : Nat)) (.int .i64 (beVal a3.1 : Nat)) (.int .i64 (beVal a4.1 : Nat)) (.bool ((beVal a5.1 : Int) == 1)) (.slice A acc.length cap))
                have hB12 := blk_seven R11.out (.int .i64 (beVal a0.1 : Nat)) (.int .i64 (beVal a1.1 : Nat)) (.int .i64 (beVal a2.1 : Nat)) (.int .i64 (beVal a3.1 : Nat)) (.int .i64 (beVal a4.1 : Nat)) (.bool ((beVal a5.1 : Int) == 1)) (.slice A acc.length cap)
                have hW12 := below_seven W11.out (Nat.le_refl w.heap.size) (.int .i64 (beVal a0.1 : Nat)) (.int .i64 (beVal a1.1 : Nat)) (.int .i64 (beVal a2.1 : Nat)) (.int .i64 (beVal a3.1 : Nat)) (.int .i64 (beVal a4.1 : Nat)) (.bool ((beVal a5.1 : Int) == 1)) (.slice A acc.length cap)
                have hO12 := own_seven (g := w.heap.size) O11.out (fun e => by have := (O11.out.lt _ e).1; omega) (.int .i64 (beVal a0.1 : Nat)) (.int .i64 (beVal a1.1 : Nat)) (.int .i64 (beVal a2.1 : Nat)) (.int .i64 (beVal a3.1 : Nat)) (.int .i64 (beVal a4.1 : Nat)) (.bool ((beVal a5.1 : Int) == 1)) (.slice A acc.length cap)
                generalize setSeven w11 w.heap.size (.int .i64 (beVal a0.1 : Nat)) (.int .i64 (beVal a1.1 : Nat)) (.int .i64 (beVal a2.1 : Nat)) (.int .i64 (beVal a3.1 : Nat)) (.int .i64 (beVal a4.1 : Nat)) (.bool ((beVal a5.1 : Int) == 1)) (.slice A acc.length cap) = W12 at hB12 hW12 hO12 ⊢
                have hcell := hB12.cell; have hfree := hB12.free; have hlt12 := hB12.lt
                clear hcR hfR hcM hRl
                refine bodyPost_ret (v := .tuple #[.agg #[.int .i64 (beVal a0.1 : Nat), .int .i64 (beVal a1.1 : Nat), .int .i64 (beVal a2.1 : Nat), .int .i64 (beVal a3.1 : Nat), .int .i64 (beVal a4.1 : Nat), .bool ((beVal a5.1 : Int) == 1), .slice A acc.length cap], .int .i64 0]) ?_ rfl ?_
                · simp [results, Tryz.results10, go_sem, hcell, hfree, hlt12]
                · rw [HG.out]
                  exact ⟨A, acc.length, cap, rfl, own_base hO12 (by omega), hW12⟩
              · have y3 : (p.1 == b.toList) = false := by rw [ByteArray.toList_eq]; simpa using z3
                have HG : Hid (getW b.data.toList = (.none, 6)) := Lib.hid (by rw [Hg.out, Hp.out, if_pos (.inr z3)])
                clear z1 z2 z3
                go_wp2_with fail
                change bodyPost _ _ _ _ _ (setSeven w11 w.heap.size (.int .i64 0) (.int .i64 0) (.int .i64 0) (.int .i64 0) (.int .i64 0) (.bool false) (.slice none 0 0))
                have hB12 := blk_seven R11.out (.int .i64 0) (.int .i64 0) (.int .i64 0) (.int .i64 0) (.int .i64 0) (.bool false) (.slice none 0 0)
                have hW12 := below_seven W11.out (Nat.le_refl w.heap.size) (.int .i64 0) (.int .i64 0) (.int .i64 0) (.int .i64 0) (.int .i64 0) (.bool false) (.slice none 0 0)
                generalize setSeven w11 w.heap.size (.int .i64 0) (.int .i64 0) (.int .i64 0) (.int .i64 0) (.int .i64 0) (.bool false) (.slice none 0 0) = W12 at hB12 hW12 ⊢
                have hcell := hB12.cell; have hfree := hB12.free; have hlt12 := hB12.lt
                clear hcR hfR hcM hRl
                refine bodyPost_ret (v := .tuple #[.agg #[.int .i64 0, .int .i64 0, .int .i64 0, .int .i64 0, .int .i64 0, .bool false, .slice none 0 0], .int .i64 6]) ?_ rfl ?_
                · simp [results, Tryz.results10, go_sem, hcell, hfree, hlt12]
                · rw [HG.out]
                  exact ⟨none, 0, 0, rfl, World.ownsRow_nil _ _ _ _, hW12⟩
            · have y2 : (p.2 != 0) = true := by simpa using z2
              have HG : Hid (getW b.data.toList = (.none, 6)) := Lib.hid (by rw [Hg.out, Hp.out, if_pos (.inl (.inr z2))])
              clear z1 z2
              go_wp2_with fail
              change bodyPost _ _ _ _ _ (setSeven w11 w.heap.size (.int .i64 0) (.int .i64 0) (.int .i64 0) (.int .i64 0) (.int .i64 0) (.bool false) (.slice none 0 0))
              have hB12 := blk_seven R11.out (.int .i64 0) (.int .i64 0) (.int .i64 0) (.int .i64 0) (.int .i64 0) (.bool false) (.slice none 0 0)
              have hW12 := below_seven W11.out (Nat.le_refl w.heap.size) (.int .i64 0) (.int .i64 0) (.int .i64 0) (.int .i64 0) (.int .i64 0) (.bool false) (.slice none 0 0)
              generalize setSeven w11 w.heap.size (.int .i64 0) (.int .i64 0) (.int .i64 0) (.int .i64 0) (.int .i64 0) (.bool false) (.slice none 0 0) = W12 at hB12 hW12 ⊢
              have hcell := hB12.cell; have hfree := hB12.free; have hlt12 := hB12.lt
              clear hcR hfR hcM hRl
              refine bodyPost_ret (v := .tuple #[.agg #[.int .i64 0, .int .i64 0, .int .i64 0, .int .i64 0, .int .i64 0, .bool false, .slice none 0 0], .int .i64 6]) ?_ rfl ?_
              · simp [results, Tryz.results10, go_sem, hcell, hfree, hlt12]
              · rw [HG.out]
                exact ⟨none, 0, 0, rfl, World.ownsRow_nil _ _ _ _, hW12⟩
          · have y1 : (endL bs x != 0) = true := by simpa using z1
            have HG : Hid (getW b.data.toList = (.none, 6)) := Lib.hid (by rw [Hg.out, Hp.out, if_pos (.inl (.inl z1))])
            clear z1
            go_wp2_with fail
            change bodyPost _ _ _ _ _ (setSeven w11 w.heap.size (.int .i64 0) (.int .i64 0) (.int .i64 0) (.int .i64 0) (.int .i64 0) (.bool false) (.slice none 0 0))
            have hB12 := blk_seven R11.out (.int .i64 0) (.int .i64 0) (.int .i64 0) (.int .i64 0) (.int .i64 0) (.bool false) (.slice none 0 0)
            have hW12 := below_seven W11.out (Nat.le_refl w.heap.size) (.int .i64 0) (.int .i64 0) (.int .i64 0) (.int .i64 0) (.int .i64 0) (.bool false) (.slice none 0 0)
            generalize setSeven w11 w.heap.size (.int .i64 0) (.int .i64 0) (.int .i64 0) (.int .i64 0) (.int .i64 0) (.bool false) (.slice none 0 0) = W12 at hB12 hW12 ⊢
            have hcell := hB12.cell; have hfree := hB12.free; have hlt12 := hB12.lt
            clear hcR hfR hcM hRl
            refine bodyPost_ret (v := .tuple #[.agg #[.int .i64 0, .int .i64 0, .int .i64 0, .int .i64 0, .int .i64 0, .bool false, .slice none 0 0], .int .i64 6]) ?_ rfl ?_
            · simp [results, Tryz.results10, go_sem, hcell, hfree, hlt12]
            · rw [HG.out]
              exact ⟨none, 0, 0, rfl, World.ownsRow_nil _ _ _ _, hW12⟩
        · have d1n : decide (0 < r) = true := by simpa using d1
          go_wp2_with fail
          refine hpar.mono ?_
          rintro y w10 ⟨rfl, rfl⟩
          go_wp2_with fail
          refine Hput.out.mono ?_
          rintro y w10 ⟨rfl, hb10⟩
          have I10 := Lib.hid (I.out.keptBelow hb10)
          have M10 := M.out.below hb10 M.out.lt
          have R10 := R.out.below hb10 R.out.lt
          have O10 := own_below O.out hb10 (fun q hq => (O.out.lt q hq).2)
          have W10 := W.out.trans (hb10.mono W.out.size)
          have HM10 := Lib.hid M10; have HR10 := Lib.hid R10; have HO10 := Lib.hid O10; have HW10 := Lib.hid W10
          clear M10 R10 O10 W10 hb10 hc0 hc1 hc2 hc3 hc4 hc5
          go_wp2_with fail
          refine (inEnd_any g w1.heap.size bs x _ I10.out (by omega)).mono ?_
          rintro y w11 ⟨rfl, hg11, hbe11⟩
          have M11 := Lib.hid (HM10.out.keptBy hg11 (by omega))
          have R11 := Lib.hid (HR10.out.keptBy hg11 (by omega))
          have O11 := Lib.hid (HO10.out.kept hg11 (by cases hq : (Value.slice A acc.length cap).ownBlock with | none => exact .inl rfl | some q => exact .inr (fun e => by have := (O.out.lt q hq).1; injection e with e; omega)))
          have W11 := Lib.hid (HW10.out.grown hg11 (by exact HW10.out.size) (fun q hq => by injection hq with hq; omega))
          clear hg11 hbe11
          have hcR := R11.out.cell; have hfR := R11.out.free; have hcM := M11.out.cell; have hRl := R11.out.lt
          by_cases z1 : endL bs x = 0
          · have y1 : (endL bs x != 0) = false := by simpa using z1
            by_cases z2 : p.2 = 0
            · have y2 : (p.2 != 0) = false := by simpa using z2
              by_cases z3 : p.1 = b.data.toList
              · have y3 : (p.1 == b.toList) = true := by rw [ByteArray.toList_eq]; simpa using z3
                have HG : Hid (getW b.data.toList = (⟨(beVal a0.1 : Nat), (beVal a1.1 : Nat), (beVal a2.1 : Nat), (beVal a3.1 : Nat), (beVal a4.1 : Nat), (beVal a5.1 : Int) == 1, acc⟩, 0)) := Lib.hid (by rw [Hg.out, Hp.out, if_neg (by rintro ((h | h) | h); exact h z1; exact h z2; exact h z3)])
                clear z1 z2 z3
                go_wp2_with fail
                change bodyPost _ _ _ _ _ (setSeven w11 w.heap.size (.int .i64 (beVal a0.1 : Nat)) (.int .i64 (beVal a1.1 : Nat)) (.int .i64 (beVal a2.1 : Nat)) (.int .i64 (beVal a3.1 : Nat)) (.int .i64 (beVal a4.1 : Nat)) (.bool ((beVal a5.1 : Int) == 1)) (.slice A acc.length cap))
                have hB12 := blk_seven R11.out (.int .i64 (beVal a0.1 : Nat)) (.int .i64 (beVal a1.1 : Nat)) (.int .i64 (beVal a2.1 : Nat)) (.int .i64 (beVal a3.1 : Nat)) (.int .i64 (beVal a4.1 : Nat)) (.bool ((beVal a5.1 : Int) == 1)) (.slice A acc.length cap)
                have hW12 := below_seven W11.out (Nat.le_refl w.heap.size) (.int .i64 (beVal a0.1 : Nat)) (.int .i64 (beVal a1.1 : Nat)) (.int .i64 (beVal a2.1 : Nat)) (.int .i64 (beVal a3.1 : Nat)) (.int .i64 (beVal a4.1 : Nat)) (.bool ((beVal a5.1 : Int) == 1)) (.slice A acc.length cap)
                have hO12 := own_seven (g := w.heap.size) O11.out (fun e => by have := (O11.out.lt _ e).1; omega) (.int .i64 (beVal a0.1 : Nat)) (.int .i64 (beVal a1.1 : Nat)) (.int .i64 (beVal a2.1 : Nat)) (.int .i64 (beVal a3.1 : Nat)) (.int .i64 (beVal a4.1 : Nat)) (.bool ((beVal a5.1 : Int) == 1)) (.slice A acc.length cap)
                generalize setSeven w11 w.heap.size (.int .i64 (beVal a0.1 : Nat)) (.int .i64 (beVal a1.1 : Nat)) (.int .i64 (beVal a2.1 : Nat)) (.int .i64 (beVal a3.1 : Nat)) (.int .i64 (beVal a4.1 : Nat)) (.bool ((beVal a5.1 : Int) == 1)) (.slice A acc.length cap) = W12 at hB12 hW12 hO12 ⊢
                have hcell := hB12.cell; have hfree := hB12.free; have hlt12 := hB12.lt
                clear hcR hfR hcM hRl
                refine bodyPost_ret (v := .tuple #[.agg #[.int .i64 (beVal a0.1 : Nat), .int .i64 (beVal a1.1 : Nat), .int .i64 (beVal a2.1 : Nat), .int .i64 (beVal a3.1 : Nat), .int .i64 (beVal a4.1 : Nat), .bool ((beVal a5.1 : Int) == 1), .slice A acc.length cap], .int .i64 0]) ?_ rfl ?_
                · simp [results, Tryz.results10, go_sem, hcell, hfree, hlt12]
                · rw [HG.out]
                  exact ⟨A, acc.length, cap, rfl, own_base hO12 (by omega), hW12⟩
              · have y3 : (p.1 == b.toList) = false := by rw [ByteArray.toList_eq]; simpa using z3
                have HG : Hid (getW b.data.toList = (.none, 6)) := Lib.hid (by rw [Hg.out, Hp.out, if_pos (.inr z3)])
                clear z1 z2 z3
                go_wp2_with fail
                change bodyPost _ _ _ _ _ (setSeven w11 w.heap.size (.int .i64 0) (.int .i64 0) (.int .i64 0) (.int .i64 0) (.int .i64 0) (.bool false) (.slice none 0 0))
                have hB12 := blk_seven R11.out (.int .i64 0) (.int .i64 0) (.int .i64 0) (.int .i64 0) (.int .i64 0) (.bool false) (.slice none 0 0)
                have hW12 := below_seven W11.out (Nat.le_refl w.heap.size) (.int .i64 0) (.int .i64 0) (.int .i64 0) (.int .i64 0) (.int .i64 0) (.bool false) (.slice none 0 0)
                generalize setSeven w11 w.heap.size (.int .i64 0) (.int .i64 0) (.int .i64 0) (.int .i64 0) (.int .i64 0) (.bool false) (.slice none 0 0) = W12 at hB12 hW12 ⊢
                have hcell := hB12.cell; have hfree := hB12.free; have hlt12 := hB12.lt
                clear hcR hfR hcM hRl
                refine bodyPost_ret (v := .tuple #[.agg #[.int .i64 0, .int .i64 0, .int .i64 0, .int .i64 0, .int .i64 0, .bool false, .slice none 0 0], .int .i64 6]) ?_ rfl ?_
                · simp [results, Tryz.results10, go_sem, hcell, hfree, hlt12]
                · rw [HG.out]
                  exact ⟨none, 0, 0, rfl, World.ownsRow_nil _ _ _ _, hW12⟩
            · have y2 : (p.2 != 0) = true := by simpa using z2
              have HG : Hid (getW b.data.toList = (.none, 6)) := Lib.hid (by rw [Hg.out, Hp.out, if_pos (.inl (.inr z2))])
              clear z1 z2
              go_wp2_with fail
              change bodyPost _ _ _ _ _ (setSeven w11 w.heap.size (.int .i64 0) (.int .i64 0) (.int .i64 0) (.int .i64 0) (.int .i64 0) (.bool false) (.slice none 0 0))
              have hB12 := blk_seven R11.out (.int .i64 0) (.int .i64 0) (.int .i64 0) (.int .i64 0) (.int .i64 0) (.bool false) (.slice none 0 0)
              have hW12 := below_seven W11.out (Nat.le_refl w.heap.size) (.int .i64 0) (.int .i64 0) (.int .i64 0) (.int .i64 0) (.int .i64 0) (.bool false) (.slice none 0 0)
              generalize setSeven w11 w.heap.size (.int .i64 0) (.int .i64 0) (.int .i64 0) (.int .i64 0) (.int .i64 0) (.bool false) (.slice none 0 0) = W12 at hB12 hW12 ⊢
              have hcell := hB12.cell; have hfree := hB12.free; have hlt12 := hB12.lt
              clear hcR hfR hcM hRl
              refine bodyPost_ret (v := .tuple #[.agg #[.int .i64 0, .int .i64 0, .int .i64 0, .int .i64 0, .int .i64 0, .bool false, .slice none 0 0], .int .i64 6]) ?_ rfl ?_
              · simp [results, Tryz.results10, go_sem, hcell, hfree, hlt12]
              · rw [HG.out]
                exact ⟨none, 0, 0, rfl, World.ownsRow_nil _ _ _ _, hW12⟩
          · have y1 : (endL bs x != 0) = true := by simpa using z1
            have HG : Hid (getW b.data.toList = (.none, 6)) := Lib.hid (by rw [Hg.out, Hp.out, if_pos (.inl (.inl z1))])
            clear z1
            go_wp2_with fail
            change bodyPost _ _ _ _ _ (setSeven w11 w.heap.size (.int .i64 0) (.int .i64 0) (.int .i64 0) (.int .i64 0) (.int .i64 0) (.bool false) (.slice none 0 0))
            have hB12 := blk_seven R11.out (.int .i64 0) (.int .i64 0) (.int .i64 0) (.int .i64 0) (.int .i64 0) (.bool false) (.slice none 0 0)
            have hW12 := below_seven W11.out (Nat.le_refl w.heap.size) (.int .i64 0) (.int .i64 0) (.int .i64 0) (.int .i64 0) (.int .i64 0) (.bool false) (.slice none 0 0)
            generalize setSeven w11 w.heap.size (.int .i64 0) (.int .i64 0) (.int .i64 0) (.int .i64 0) (.int .i64 0) (.bool false) (.slice none 0 0) = W12 at hB12 hW12 ⊢
            have hcell := hB12.cell; have hfree := hB12.free; have hlt12 := hB12.lt
            clear hcR hfR hcM hRl
            refine bodyPost_ret (v := .tuple #[.agg #[.int .i64 0, .int .i64 0, .int .i64 0, .int .i64 0, .int .i64 0, .bool false, .slice none 0 0], .int .i64 6]) ?_ rfl ?_
            · simp [results, Tryz.results10, go_sem, hcell, hfree, hlt12]
            · rw [HG.out]
              exact ⟨none, 0, 0, rfl, World.ownsRow_nil _ _ _ _, hW12⟩
  · have y1 : (o.2 != 0) = true := by simpa using hoe
    have HG : Hid (getW b.data.toList = (.none, o.2)) := Lib.hid (by unfold getW; rw [Ho.out, if_pos hoe])
    clear hoe
    go_enter Tryz.func10, Tryz.ntmps10
    go_wp2_with fail
    refine Hop.out.mono ?_
    rintro x w1 ⟨rfl, hb1⟩
    have R1 := HR.out.below hb1 HR.out.lt
    have W1 := Hb0.out.trans (hb1.mono (by simp))
    have hcR := R1.cell; have hfR := R1.free; have hRl := R1.lt
    clear hb1
    go_wp2_with fail
    change bodyPost _ _ _ _ _ (setSeven w1 w.heap.size (.int .i64 0) (.int .i64 0) (.int .i64 0) (.int .i64 0) (.int .i64 0) (.bool false) (.slice none 0 0))
    have hB12 := blk_seven R1 (.int .i64 0) (.int .i64 0) (.int .i64 0) (.int .i64 0) (.int .i64 0) (.bool false) (.slice none 0 0)
    have hW12 := below_seven W1 (Nat.le_refl w.heap.size) (.int .i64 0) (.int .i64 0) (.int .i64 0) (.int .i64 0) (.int .i64 0) (.bool false) (.slice none 0 0)
    generalize setSeven w1 w.heap.size (.int .i64 0) (.int .i64 0) (.int .i64 0) (.int .i64 0) (.int .i64 0) (.bool false) (.slice none 0 0) = W12 at hB12 hW12 ⊢
    have hcell := hB12.cell; have hfree := hB12.free; have hlt12 := hB12.lt
    clear hcR hfR hRl
    refine bodyPost_ret (v := .tuple #[.agg #[.int .i64 0, .int .i64 0, .int .i64 0, .int .i64 0, .int .i64 0, .bool false, .slice none 0 0], .int .i64 o.2]) ?_ rfl ?_
    · simp [results, Tryz.results10, go_sem, hcell, hfree, hlt12]
    · rw [HG.out]
      exact ⟨none, 0, 0, rfl, World.ownsRow_nil _ _ _ _, hW12⟩
end Go.Proofs.YtadhboioaacaeaaGreat
