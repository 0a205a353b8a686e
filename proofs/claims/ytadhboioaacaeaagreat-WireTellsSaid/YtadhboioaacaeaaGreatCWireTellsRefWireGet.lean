/- chronicleref20.Get: bytes read as a message, by the document's own answer. -/
import Derived.Test.YtadhboioaacaeaaGreatCWireTellsWireGet
import Derived.Test.YtadhboioaacaeaaGreatCWireTellsRefWire

namespace Go.Proofs.YtadhboioaacaeaaGreat
open Go.RowKit
set_option maxHeartbeats 4000000
set_option maxRecDepth 100000
set_option linter.unusedVariables false

theorem endL_err (bs cs : List UInt8) (x : Int) (h : x ≠ 0) : endL bs x = endL cs x := by unfold endL; rw [if_neg (fun h2 => h h2.1), if_neg (fun h2 => h h2.1)]

theorem refWireGet_any (b : ByteArray) (w : World) (hb : b.size ≤ 100000) :
    Calls Tryz.prog 11 #[.string b] w fun x w' => ∃ A n cap, x = .returned (.tuple #[.agg #[.int .i64 (getW b.data.toList).1.k, .int .i64 (getW b.data.toList).1.t, .int .i64 (getW b.data.toList).1.l, .int .i64 (getW b.data.toList).1.e, .int .i64 (getW b.data.toList).1.c, .bool (getW b.data.toList).1.ok, .slice A n cap], .int .i64 (getW b.data.toList).2]) ∧
      w'.ownsRow w.heap.size 9 1 (.slice A n cap) n (strVs (getW b.data.toList).1.es) ∧ Below w.heap.size w w' := by
  have hop := refOpen_any b (w.alloc (.cells #[.int .i64 0, .int .i64 0, .int .i64 0, .int .i64 0, .int .i64 0, .bool false, .slice none 0 0] 41)) (by omega)
  have hR := BlkIs.new w 41 #[.int .i64 0, .int .i64 0, .int .i64 0, .int .i64 0, .int .i64 0, .bool false, .slice none 0 0]
  have hb0 : Below w.heap.size w (w.alloc (.cells #[.int .i64 0, .int .i64 0, .int .i64 0, .int .i64 0, .int .i64 0, .bool false, .slice none 0 0] 41)) := (Below.refl w.heap.size w).alloc (Nat.le_refl _) _
  have hsl := size_list b
  have hol : (openL b.data.toList).1.length ≤ 100000 := by
    unfold openL; split
    · simp
    · split
      · simp only [List.length_drop]; omega
      · simp
  obtain ⟨o, ho⟩ : ∃ o, openL b.data.toList = o := ⟨_, rfl⟩
  rw [ho] at hop hol
  have Ho := Lib.hid ho; have Hop := Lib.hid hop; have HR := Lib.hid hR; have Hb0 := Lib.hid hb0
  clear ho hop hR hb0 hsl
  by_cases hoe : o.2 = 0
  · have hg : getW b.data.toList = if (endL (readW o.1).2.1 (readW o.1).2.2 ≠ 0 ∨ (putW (readW o.1).1).2 ≠ 0) ∨ (putW (readW o.1).1).1 ≠ b.data.toList then (.none, 6) else ((readW o.1).1, 0) := by
      unfold getW; rw [Ho.out]; simp only [ne_eq, hoe, not_true_eq_false, if_false]
    obtain ⟨a0, h0⟩ : ∃ a, inTake 1 o.1 0 = a := ⟨_, rfl⟩
    obtain ⟨a1, h1⟩ : ∃ a, inTake 4 a0.2.1 a0.2.2 = a := ⟨_, rfl⟩
    obtain ⟨a2, h2⟩ : ∃ a, inTake 4 a1.2.1 a1.2.2 = a := ⟨_, rfl⟩
    obtain ⟨a3, h3⟩ : ∃ a, inTake 4 a2.2.1 a2.2.2 = a := ⟨_, rfl⟩
    obtain ⟨a4, h4⟩ : ∃ a, inTake 4 a3.2.1 a3.2.2 = a := ⟨_, rfl⟩
    obtain ⟨a5, h5⟩ : ∃ a, inTake 1 a4.2.1 a4.2.2 = a := ⟨_, rfl⟩
    obtain ⟨a6, h6⟩ : ∃ a, inTake 1 a5.2.1 a5.2.2 = a := ⟨_, rfl⟩
    have hrd : readW o.1 = (⟨(beVal a0.1 : Nat), (beVal a1.1 : Nat), (beVal a2.1 : Nat), (beVal a3.1 : Nat), (beVal a4.1 : Nat), (beVal a5.1 : Int) == 1, (rdTexts (beVal a6.1) a6.2.1 a6.2.2).1⟩, (rdTexts (beVal a6.1) a6.2.1 a6.2.2).2.1, (rdTexts (beVal a6.1) a6.2.1 a6.2.2).2.2) := by
      unfold readW; simp only [h0, h1, h2, h3, h4, h5, h6]
    have l0 : a0.2.1.length ≤ 100000 := by rw [← h0]; exact Nat.le_trans (inTake_rest_few _ _ _) hol
    have l1 : a1.2.1.length ≤ 100000 := by rw [← h1]; exact Nat.le_trans (inTake_rest_few _ _ _) l0
    have l2 : a2.2.1.length ≤ 100000 := by rw [← h2]; exact Nat.le_trans (inTake_rest_few _ _ _) l1
    have l3 : a3.2.1.length ≤ 100000 := by rw [← h3]; exact Nat.le_trans (inTake_rest_few _ _ _) l2
    have l4 : a4.2.1.length ≤ 100000 := by rw [← h4]; exact Nat.le_trans (inTake_rest_few _ _ _) l3
    have l5 : a5.2.1.length ≤ 100000 := by rw [← h5]; exact Nat.le_trans (inTake_rest_few _ _ _) l4
    have l6 : a6.2.1.length ≤ 100000 := by rw [← h6]; exact Nat.le_trans (inTake_rest_few _ _ _) l5
    have n0 : beVal a0.1 < 256 := by rw [← h0]; exact inNum_lt 1 _ _
    have n1 : beVal a1.1 < 4294967296 := by rw [← h1]; exact inNum_lt 4 _ _
    have n2 : beVal a2.1 < 4294967296 := by rw [← h2]; exact inNum_lt 4 _ _
    have n3 : beVal a3.1 < 4294967296 := by rw [← h3]; exact inNum_lt 4 _ _
    have n4 : beVal a4.1 < 4294967296 := by rw [← h4]; exact inNum_lt 4 _ _
    have n6 : beVal a6.1 < 256 := by rw [← h6]; exact inNum_lt 1 _ _
    have k0 : IntKind.i64.wrap ((beVal a0.1 : Nat) : Int) = ((beVal a0.1 : Nat) : Int) := IntWalk.i64_in _ (by omega)
    have k1 : IntKind.i64.wrap ((beVal a1.1 : Nat) : Int) = ((beVal a1.1 : Nat) : Int) := IntWalk.i64_in _ (by omega)
    have k2 : IntKind.i64.wrap ((beVal a2.1 : Nat) : Int) = ((beVal a2.1 : Nat) : Int) := IntWalk.i64_in _ (by omega)
    have k3 : IntKind.i64.wrap ((beVal a3.1 : Nat) : Int) = ((beVal a3.1 : Nat) : Int) := IntWalk.i64_in _ (by omega)
    have k4 : IntKind.i64.wrap ((beVal a4.1 : Nat) : Int) = ((beVal a4.1 : Nat) : Int) := IntWalk.i64_in _ (by omega)
    have k6 : IntKind.i64.wrap ((beVal a6.1 : Nat) : Int) = ((beVal a6.1 : Nat) : Int) := IntWalk.i64_in _ (by omega)
    obtain ⟨so, hso⟩ : ∃ so : ByteArray, (⟨o.1.toArray⟩ : ByteArray) = so := ⟨_, rfl⟩
    have hop2 := Hop.out
    rw [hso, hoe] at hop2
    have hU : ∀ (k : Nat) (bs : List UInt8) (x : Int) (a : List UInt8 × List UInt8 × Int), inTake k bs x = a → bs.length ≤ 100000 → k ≤ 8 → ∀ (g base : Nat) (w : World), RinIs w base g bs x → Calls Tryz.prog 41 #[.pointer (some ⟨g, 0, none⟩), .int .i64 (k : Int)] w fun e w' => e = .returned (.int .u64 (beVal a.1 : Nat)) ∧ RinIs w' base g a.2.1 a.2.2 ∧ w.grownBy w' (some g) := fun k bs x a ha hl hk g base w h => by have := refInNumG g base k bs x w h (by omega) hk; unfold inNum at this; rwa [ha] at this
    have HU0 := Lib.hid (hU 1 _ _ _ h0 hol (by omega)); have HU1 := Lib.hid (hU 4 _ _ _ h1 l0 (by omega)); have HU2 := Lib.hid (hU 4 _ _ _ h2 l1 (by omega)); have HU3 := Lib.hid (hU 4 _ _ _ h3 l2 (by omega)); have HU4 := Lib.hid (hU 4 _ _ _ h4 l3 (by omega)); have HU5 := Lib.hid (hU 1 _ _ _ h5 l4 (by omega)); have HU6 := Lib.hid (hU 1 _ _ _ h6 l5 (by omega))
    rw [hrd] at hg
    have Hg := Lib.hid hg; have Hop2 := Lib.hid hop2; have Hso := Lib.hid hso
    clear hU hg hop2 hso hrd h0 h1 h2 h3 h4 h5 h6 hoe l0 l1 l2 l3 l4 l5 hol
    go_enter Tryz.func11, Tryz.ntmps11
    go_wp2_with fail
    refine Hop2.out.mono ?_
    rintro x w1 ⟨rfl, hb1⟩
    have R1 := HR.out.below hb1 HR.out.lt
    have W1 := Hb0.out.trans (hb1.mono (by simp))
    have R2 := Lib.hid (R1.alloc (.cells #[.string so, .int .i64 0] 84))
    have W2 := Lib.hid (W1.alloc W1.size (.cells #[.string so, .int .i64 0] 84))
    have I2 : Hid (RinIs (w1.alloc (.cells #[.string so, .int .i64 0] 84)) w1.heap.size w1.heap.size o.1 0) := Lib.hid (by rw [← Hso.out]; exact RinIs.new w1 o.1)
    have hgr : w.heap.size < w1.heap.size := R1.lt
    clear hb1 R1 W1
    go_wp2_with fail
    refine (HU0.out w1.heap.size w1.heap.size _ I2.out).mono ?_
    rintro x w3 ⟨rfl, hi, hb⟩
    have R3 := Lib.hid (R2.out.keptBy hb (by omega))
    have W3 := Lib.hid (W2.out.grown hb (by exact W2.out.size) (fun q hq => by injection hq with hq; omega))
    have I3 := Lib.hid hi
    clear hb hi
    go_wp2_with fail
    have hg8 : w1.heap.size < w3.heap.size := I3.out.2.lt
    have M := Lib.hid (BlkIs.new w3 41 #[.int .i64 (beVal a0.1 : Nat), .int .i64 0, .int .i64 0, .int .i64 0, .int .i64 0, .bool false, .slice none 0 0])
    have I := Lib.hid (RinIs.alloc I3.out (.cells #[.int .i64 (beVal a0.1 : Nat), .int .i64 0, .int .i64 0, .int .i64 0, .int .i64 0, .bool false, .slice none 0 0] 41))
    have R := Lib.hid (R3.out.alloc (.cells #[.int .i64 (beVal a0.1 : Nat), .int .i64 0, .int .i64 0, .int .i64 0, .int .i64 0, .bool false, .slice none 0 0] 41))
    have W := Lib.hid (W3.out.alloc (by exact W3.out.size) (.cells #[.int .i64 (beVal a0.1 : Nat), .int .i64 0, .int .i64 0, .int .i64 0, .int .i64 0, .bool false, .slice none 0 0] 41))
    refine (HU1.out w1.heap.size w1.heap.size _ I.out).mono ?_
    rintro x w4 ⟨rfl, hi, hb⟩
    have M1 := M.out.keptBy hb (by omega)
    have R1 := R.out.keptBy hb (by omega)
    have W1 := W.out.grown hb (by exact W.out.size) (fun q hq => by injection hq with hq; omega)
    have hcM := M1.cell; have hfM := M1.free; have hlM := M1.lt
    have M' := M1.put 1 (.int .i64 (beVal a1.1 : Nat))
    have R' := R1.keptBy (grown_set w4 w3.heap.size 1 (.int .i64 (beVal a1.1 : Nat))) (by omega)
    have W' := W1.setCell (p := ⟨w3.heap.size, 1, none⟩) (Nat.le_of_lt (Nat.lt_trans hgr hg8)) (.int .i64 (beVal a1.1 : Nat))
    have I' : RinIs (w4.setCell ⟨w3.heap.size, 1, none⟩ (.int .i64 (beVal a1.1 : Nat))) w1.heap.size w1.heap.size a1.2.1 a1.2.2 := ⟨hi.1, hi.2.keptBy (grown_set w4 w3.heap.size 1 (.int .i64 (beVal a1.1 : Nat))) (by omega)⟩
    clear M R W I
    have M := Lib.hid M'; have R := Lib.hid R'; have W := Lib.hid W'; have I := Lib.hid I'
    clear hb hi M1 R1 W1 M' R' W' I'
    go_wp2_with fail
    clear hcM hfM hlM
    refine (HU2.out w1.heap.size w1.heap.size _ I.out).mono ?_
    rintro x w5 ⟨rfl, hi, hb⟩
    have M2 := M.out.keptBy hb (by omega)
    have R2 := R.out.keptBy hb (by omega)
    have W2 := W.out.grown hb (by exact W.out.size) (fun q hq => by injection hq with hq; omega)
    have hcM := M2.cell; have hfM := M2.free; have hlM := M2.lt
    have M' := M2.put 2 (.int .i64 (beVal a2.1 : Nat))
    have R' := R2.keptBy (grown_set w5 w3.heap.size 2 (.int .i64 (beVal a2.1 : Nat))) (by omega)
    have W' := W2.setCell (p := ⟨w3.heap.size, 2, none⟩) (Nat.le_of_lt (Nat.lt_trans hgr hg8)) (.int .i64 (beVal a2.1 : Nat))
    have I' : RinIs (w5.setCell ⟨w3.heap.size, 2, none⟩ (.int .i64 (beVal a2.1 : Nat))) w1.heap.size w1.heap.size a2.2.1 a2.2.2 := ⟨hi.1, hi.2.keptBy (grown_set w5 w3.heap.size 2 (.int .i64 (beVal a2.1 : Nat))) (by omega)⟩
    clear M R W I
    have M := Lib.hid M'; have R := Lib.hid R'; have W := Lib.hid W'; have I := Lib.hid I'
    clear hb hi M2 R2 W2 M' R' W' I'
    go_wp2_with fail
    clear hcM hfM hlM
    refine (HU3.out w1.heap.size w1.heap.size _ I.out).mono ?_
    rintro x w6 ⟨rfl, hi, hb⟩
    have M3 := M.out.keptBy hb (by omega)
    have R3 := R.out.keptBy hb (by omega)
    have W3 := W.out.grown hb (by exact W.out.size) (fun q hq => by injection hq with hq; omega)
    have hcM := M3.cell; have hfM := M3.free; have hlM := M3.lt
    have M' := M3.put 3 (.int .i64 (beVal a3.1 : Nat))
    have R' := R3.keptBy (grown_set w6 w3.heap.size 3 (.int .i64 (beVal a3.1 : Nat))) (by omega)
    have W' := W3.setCell (p := ⟨w3.heap.size, 3, none⟩) (Nat.le_of_lt (Nat.lt_trans hgr hg8)) (.int .i64 (beVal a3.1 : Nat))
    have I' : RinIs (w6.setCell ⟨w3.heap.size, 3, none⟩ (.int .i64 (beVal a3.1 : Nat))) w1.heap.size w1.heap.size a3.2.1 a3.2.2 := ⟨hi.1, hi.2.keptBy (grown_set w6 w3.heap.size 3 (.int .i64 (beVal a3.1 : Nat))) (by omega)⟩
    clear M R W I
    have M := Lib.hid M'; have R := Lib.hid R'; have W := Lib.hid W'; have I := Lib.hid I'
    clear hb hi M3 R3 W3 M' R' W' I'
    go_wp2_with fail
    clear hcM hfM hlM
    refine (HU4.out w1.heap.size w1.heap.size _ I.out).mono ?_
    rintro x w7 ⟨rfl, hi, hb⟩
    have M4 := M.out.keptBy hb (by omega)
    have R4 := R.out.keptBy hb (by omega)
    have W4 := W.out.grown hb (by exact W.out.size) (fun q hq => by injection hq with hq; omega)
    have hcM := M4.cell; have hfM := M4.free; have hlM := M4.lt
    have M' := M4.put 4 (.int .i64 (beVal a4.1 : Nat))
    have R' := R4.keptBy (grown_set w7 w3.heap.size 4 (.int .i64 (beVal a4.1 : Nat))) (by omega)
    have W' := W4.setCell (p := ⟨w3.heap.size, 4, none⟩) (Nat.le_of_lt (Nat.lt_trans hgr hg8)) (.int .i64 (beVal a4.1 : Nat))
    have I' : RinIs (w7.setCell ⟨w3.heap.size, 4, none⟩ (.int .i64 (beVal a4.1 : Nat))) w1.heap.size w1.heap.size a4.2.1 a4.2.2 := ⟨hi.1, hi.2.keptBy (grown_set w7 w3.heap.size 4 (.int .i64 (beVal a4.1 : Nat))) (by omega)⟩
    clear M R W I
    have M := Lib.hid M'; have R := Lib.hid R'; have W := Lib.hid W'; have I := Lib.hid I'
    clear hb hi M4 R4 W4 M' R' W' I'
    go_wp2_with fail
    clear hcM hfM hlM
    refine (HU5.out w1.heap.size w1.heap.size _ I.out).mono ?_
    rintro x w8 ⟨rfl, hi, hb⟩
    have M5 := M.out.keptBy hb (by omega)
    have R5 := R.out.keptBy hb (by omega)
    have W5 := W.out.grown hb (by exact W.out.size) (fun q hq => by injection hq with hq; omega)
    have hcM := M5.cell; have hfM := M5.free; have hlM := M5.lt
    have M' := M5.put 5 (.bool ((beVal a5.1 : Int) == 1))
    have R' := R5.keptBy (grown_set w8 w3.heap.size 5 (.bool ((beVal a5.1 : Int) == 1))) (by omega)
    have W' := W5.setCell (p := ⟨w3.heap.size, 5, none⟩) (Nat.le_of_lt (Nat.lt_trans hgr hg8)) (.bool ((beVal a5.1 : Int) == 1))
    have I' : RinIs (w8.setCell ⟨w3.heap.size, 5, none⟩ (.bool ((beVal a5.1 : Int) == 1))) w1.heap.size w1.heap.size a5.2.1 a5.2.2 := ⟨hi.1, hi.2.keptBy (grown_set w8 w3.heap.size 5 (.bool ((beVal a5.1 : Int) == 1))) (by omega)⟩
    clear M R W I
    have M := Lib.hid M'; have R := Lib.hid R'; have W := Lib.hid W'; have I := Lib.hid I'
    clear hb hi M5 R5 W5 M' R' W' I'
    go_wp2_with fail
    clear hcM hfM hlM
    refine (HU6.out w1.heap.size w1.heap.size _ I.out).mono ?_
    rintro x w9 ⟨rfl, hi, hb⟩
    have M9 := Lib.hid (M.out.keptBy hb (by omega))
    have R9 := Lib.hid (R.out.keptBy hb (by omega))
    have W9 := Lib.hid (W.out.grown hb (by exact W.out.size) (fun q hq => by injection hq with hq; omega))
    have I9 := Lib.hid hi
    clear hb hi M R W I
    obtain ⟨N, hN⟩ : ∃ N, beVal a6.1 = N := ⟨_, rfl⟩
    obtain ⟨q, hq⟩ : ∃ q, rdTexts N a6.2.1 a6.2.2 = q := ⟨_, rfl⟩
    rw [hN] at n6 Hg k6 ⊢
    rw [hq] at Hg
    have Hq := Lib.hid hq
    obtain ⟨i0, hi0, hz0, hz1, hz2⟩ := info_parts info_strG
    clear hN hq
    go_wp2_with fail
    go_loopw [9] (fun kk wr => ∃ (m : Nat) (bs : List UInt8) (x : Int) (v : Value) (acc : List ByteArray), kk = .int .i64 m ∧ m ≤ N ∧ RinIs wr w1.heap.size w1.heap.size bs x ∧ BlkIs wr w3.heap.size 41 #[.int .i64 (beVal a0.1 : Nat), .int .i64 (beVal a1.1 : Nat), .int .i64 (beVal a2.1 : Nat), .int .i64 (beVal a3.1 : Nat), .int .i64 (beVal a4.1 : Nat), .bool ((beVal a5.1 : Int) == 1), v] ∧ wr.ownsRow (w3.heap.size + 1) 9 1 v acc.length (strVs acc) ∧ BlkIs wr w.heap.size 41 #[.int .i64 0, .int .i64 0, .int .i64 0, .int .i64 0, .int .i64 0, .bool false, .slice none 0 0] ∧ Below w.heap.size w wr ∧ bs.length ≤ 100000 ∧ acc.length ≤ m ∧ (∀ s ∈ acc, s.size ≤ 100000) ∧ (x = 0 → q = (acc ++ (rdTexts (N - m) bs 0).1, (rdTexts (N - m) bs 0).2)) ∧ (x ≠ 0 → q.1 = acc ∧ q.2.2 = x)) (fun kk _ => N - (intOf kk).toNat)
    case atStart => exact ⟨0, a6.2.1, a6.2.2, _, [], rfl, Nat.zero_le _, I9.out, M9.out, World.ownsRow_nil _ _ _ _, R9.out, W9.out, by omega, by simp, fun s hs => by simp at hs, fun h => by rw [← Hq.out, h]; rfl, fun h => by rw [← Hq.out, rdTexts_stop _ _ _ h]; exact ⟨rfl, rfl⟩⟩
    case round =>
      obtain ⟨m, bs, x, v, acc, rfl, hmN, hi, hM, hown, hR, hW, hbl, har, has, hqq, hqe⟩ := hrel
      have hm6 := hM.cell 6
      have hmf := hM.free 6
      have hx1 := hi.2.cell 1
      simp at hm6 hx1
      have hmlt := hM.lt
      have I := Lib.hid hi; have M := Lib.hid hM; have O := Lib.hid hown; have R := Lib.hid hR; have W := Lib.hid hW; have Has := Lib.hid has; have Hqq := Lib.hid hqq; have Hqe := Lib.hid hqe
      clear hi hM hown hR hW has hqq hqe
      by_cases hgo : m < N ∧ x = 0
      · obtain ⟨hr0, rfl⟩ := hgo
        have Hq0 := Lib.hid (Hqq.out rfl)
        clear Hqq Hqe
        go_wp2_with fail
        obtain ⟨it, hit⟩ : ∃ it, inText 4000 bs 0 = it := ⟨_, rfl⟩
        have ht := refInTextG w1.heap.size w1.heap.size 4000 bs 0 wr.drew ⟨I.out.1, I.out.2.drew⟩ (by omega) (by omega)
        rw [hit] at ht
        have hi1 : it.1.length ≤ 100000 := by rw [← hit]; exact Nat.le_trans (inText_first_few _ _ _) hbl
        have hq2 : q = (acc ++ [(⟨it.1.toArray⟩ : ByteArray)] ++ (rdTexts (N - (m + 1)) it.2.1 it.2.2).1, (rdTexts (N - (m + 1)) it.2.1 it.2.2).2) := by rw [Hq0.out, show N - m = N - (m + 1) + 1 from by omega, rdTexts_step, hit]; simp
        obtain ⟨T, hT⟩ : ∃ T : ByteArray, (⟨it.1.toArray⟩ : ByteArray) = T := ⟨_, rfl⟩
        have hTs : T.size ≤ 100000 := by rw [← hT, size_mk]; exact hi1
        rw [hT] at ht hq2
        have Ht := Lib.hid ht; have Hq2 := Lib.hid hq2
        clear ht hq2 hit hT hi1
        go_region_law (first
          | (refine step_append_lies _ (by rfl) (.tmp 63) (.tmp 66) _ (by rfl) (w3.heap.size + 1) 9 i0 _ 1 16 Tryz.underlying22 hi0 hz0 hz1 hz2 rfl (by omega) v acc.length (strVs acc) (by simp [Act.eval, Act.put]) (by exact O2.out.alloc _) ⟨wt.heap.size, 0, none⟩ 1 1 [.string T] (by simp [Act.eval, Act.put]) (by rfl) (World.news_of_block (cs := #[.string T]) (heap_alloc_new wt _)) (by simp [Value.oneCell']) (by omega) (by simp only [maxLen]; omega) (by omega) (by simp <;> omega) _ rfl ?_; intro ga ca wz hown3 hgrow3 hat3 hlt3; have M3 := Lib.hid ((M2.out.alloc (.cells #[.string T] 9)).grown hgrow3 (fun e => by have := (O.out.lt _ e.symm).1; omega)); have q6 := M3.out.cell 6; have q6f := M3.out.free 6; simp at q6)
          | (go_simp; go_at_call 42; (refine Ht.out.mono ?_; rintro e wt ⟨rr, rfl, hi, hgx, hrl, hre⟩; have Hrl := Lib.hid hrl; have Hre := Lib.hid hre; have I2 := Lib.hid hi; have M2 := Lib.hid (M.out.drew.keptBy hgx (by omega)); have O2 := Lib.hid (O.out.drew.kept hgx (by cases hq : v.ownBlock with | none => exact .inl rfl | some q => exact .inr (fun e => by have := (O.out.lt q hq).1; injection e with e; omega))); have hszt : w3.heap.size + 1 ≤ wt.heap.size := Nat.le_trans hmlt hgx.size; have hm6t := M2.out.cell 6; have hm6a := (M2.out.alloc (.cells #[.string T] 9)).cell 6; rw [show (#[.int .i64 (beVal a0.1 : Nat), .int .i64 (beVal a1.1 : Nat), .int .i64 (beVal a2.1 : Nat), .int .i64 (beVal a3.1 : Nat), .int .i64 (beVal a4.1 : Nat), .bool ((beVal a5.1 : Int) == 1), v] : Array Value)[6]? = some v from rfl] at hm6t hm6a; clear hi hrl hre)))
        all_goals
          have hgl : w1.heap.size < wr.heap.size := I.out.2.lt
          have hwl : w.heap.size < wr.heap.size := R.out.lt
          have hv3 : w3.heap.size + 1 ≤ ga := by
            rcases hat3 with h | h
            · exact (O.out.lt ga h).1
            · first
                | (simp at h; omega)
                | (rw [h]; simp; omega)
          have R2t := (R.out.drew.keptBy hgx (by omega)).alloc (.cells #[.string T] 9)
          have I3 := (I2.out.2.alloc (.cells #[.string T] 9)).grown hgrow3 (fun e => by have := (O.out.lt _ e.symm).1; omega)
          have R3 := R2t.grown hgrow3 (fun e => by have := (O.out.lt _ e.symm).1; omega)
          have W2t : Below w.heap.size w (wt.alloc (.cells #[.string T] 9)) := ((below_drewN W.out 1).grown hgx (by exact W.out.size) (fun q hq => by injection hq with hq; omega)).alloc (by have := W.out.size; omega) _
          have W3 := W2t.grown hgrow3 (by simp; omega) (fun q hq => by have := (O.out.lt _ hq).1; omega)
          have I4 := I3.keptBy (grown_set wz w3.heap.size 6 (.slice (some ⟨ga, 0, none⟩) (acc.length + 1) ca)) (by omega)
          have R4 := R3.keptBy (grown_set wz w3.heap.size 6 (.slice (some ⟨ga, 0, none⟩) (acc.length + 1) ca)) (by omega)
          have W4 := W3.setCell (p := ⟨w3.heap.size, 6, none⟩) (Nat.le_of_lt (Nat.lt_trans hgr hg8)) (.slice (some ⟨ga, 0, none⟩) (acc.length + 1) ca)
          have M4 := M3.out.put 6 (.slice (some ⟨ga, 0, none⟩) (acc.length + 1) ca)
          have O4 := own_far (a := ⟨w3.heap.size, 6, none⟩) hown3 (by simp [Value.ownBlock]; omega) (.slice (some ⟨ga, 0, none⟩) (acc.length + 1) ca)
          have HI4 := Lib.hid I4; have HR4 := Lib.hid R4; have HW4 := Lib.hid W4; have HM4 := Lib.hid M4; have HO4 := Lib.hid O4
          have hI21 := I2.out.1
          clear R2t I3 R3 W2t W3 I4 R4 W4 M4 O4 hown3 hgrow3
          go_wp2_with fail
          go_roundw
          case rel =>
            refine ⟨m + 1, rr, it.2.2, _, acc ++ [T], by go_num, by omega, ⟨hI21, HI4.out⟩, HM4.out, ?_, HR4.out, HW4.out, Nat.le_trans Hrl.out hbl, by simp; omega, fun s hs => ?_, fun h => ?_, fun h => ?_⟩
            · have := HO4.out
              rw [List.length_append]
              simpa [strVs] using this
            · rcases List.mem_append.1 hs with h | h
              · exact Has.out s h
              · simp at h; rw [h]; exact hTs
            · rw [Hq2.out, Hre.out h, h]
            · rw [Hq2.out, rdTexts_stop _ _ _ h]; simp
          case measure => simp [intOf] <;> omega
      · have hqa : q.1 = acc ∧ endL q.2.1 q.2.2 = endL bs x := by
          by_cases hx : x = 0
          · have := Hqq.out hx
            rw [show N - m = 0 from by omega] at this
            rw [this, hx]; exact ⟨by simp [rdTexts], rfl⟩
          · have := Hqe.out hx
            exact ⟨this.1, by rw [this.2]; exact endL_err _ _ _ hx⟩
        have hex : decide (m < N) = false ∨ (decide (m < N) = true ∧ (x == 0) = false) := by
          by_cases h0 : m < N
          · exact .inr ⟨by simpa using h0, by simp; omega⟩
          · exact .inl (by simpa using h0)
        obtain ⟨A, cap, rfl, hnc⟩ := own_slice O.out
        obtain ⟨p, hp⟩ : ∃ p, putW ⟨(beVal a0.1 : Nat), (beVal a1.1 : Nat), (beVal a2.1 : Nat), (beVal a3.1 : Nat), (beVal a4.1 : Nat), (beVal a5.1 : Int) == 1, acc⟩ = p := ⟨_, rfl⟩
        have Hg2 : Hid (getW b.data.toList = if (endL bs x ≠ 0 ∨ p.2 ≠ 0) ∨ p.1 ≠ b.data.toList then (.none, 6) else (⟨(beVal a0.1 : Nat), (beVal a1.1 : Nat), (beVal a2.1 : Nat), (beVal a3.1 : Nat), (beVal a4.1 : Nat), (beVal a5.1 : Int) == 1, acc⟩, 0)) := Lib.hid (by rw [Hg.out, hqa.1, hqa.2, hp])
        have Hp := Lib.hid hp
        clear hp hqa hgo Hqq Hqe
        rcases hex with d1 | ⟨d1, d2⟩
        · go_wp2_with fail
          refine (refEndG w1.heap.size w1.heap.size bs x _ I.out (by omega)).mono ?_
          rintro y w10 ⟨rfl, hg10⟩
          have M10 := Lib.hid (M.out.keptBy hg10 (by omega))
          have R10 := Lib.hid (R.out.keptBy hg10 (by omega))
          have O10 := Lib.hid (O.out.kept hg10 (by cases hq : (Value.slice A acc.length cap).ownBlock with | none => exact .inl rfl | some q => exact .inr (fun e => by have := (O.out.lt q hq).1; injection e with e; omega)))
          have W10 := Lib.hid (W.out.grown hg10 (by exact W.out.size) (fun q hq => by injection hq with hq; omega))
          have hcR := R10.out.cell; have hfR := R10.out.free; have hcM := M10.out.cell; have hRl := R10.out.lt
          clear hg10
          by_cases z1 : endL bs x = 0
          · have y1 : (endL bs x != 0) = false := by simpa using z1
            have hput := refWirePut_any (beVal a0.1 : Nat) (beVal a1.1 : Nat) (beVal a2.1 : Nat) (beVal a3.1 : Nat) (beVal a4.1 : Nat) ((beVal a5.1 : Int) == 1) A acc.length cap w10.heap.size acc w10 (SlR.own O10.out) (Nat.le_refl _) (by omega) (fun s hs => by have := Has.out s hs; omega)
            rw [Hp.out] at hput
            have Hput := Lib.hid hput
            have Z1 := Lib.hid z1
            clear hput z1
            go_wp2_with fail
            refine Hput.out.mono ?_
            rintro y w11 ⟨rfl, hb11⟩
            have M11 := Lib.hid (M10.out.below hb11 M10.out.lt)
            have R11 := Lib.hid (R10.out.below hb11 R10.out.lt)
            have O11 := Lib.hid (own_below O10.out hb11 (fun q hq => (O10.out.lt q hq).2))
            have W11 := Lib.hid (W10.out.trans (hb11.mono W10.out.size))
            clear hcR hfR hcM hRl hb11
            have hcR := R11.out.cell; have hfR := R11.out.free; have hcM := M11.out.cell; have hRl := R11.out.lt
            by_cases z2 : p.2 = 0
            · have y2 : (p.2 != 0) = false := by simpa using z2
              by_cases z3 : p.1 = b.data.toList
              · have y3 : (p.1 == b.toList) = true := by rw [ByteArray.toList_eq]; simpa using z3
                have HG : Hid (getW b.data.toList = (⟨(beVal a0.1 : Nat), (beVal a1.1 : Nat), (beVal a2.1 : Nat), (beVal a3.1 : Nat), (beVal a4.1 : Nat), (beVal a5.1 : Int) == 1, acc⟩, 0)) := Lib.hid (by rw [Hg2.out, if_neg (by rintro ((h | h) | h); exact h Z1.out; exact h z2; exact h z3)])
                clear z2 z3
                go_wp2_with fail
                change bodyPost _ _ _ _ _ (setSeven w11 w.heap.size (.int .i64 (beVal a0.1 : Nat)) (.int .i64 (beVal a1.1 : Nat)) (.int .i64 (beVal a2.1 : Nat)) (.int .i64 (beVal a3.1 : Nat)) (.int .i64 (beVal a4.1 : Nat)) (.bool ((beVal a5.1 : Int) == 1)) (.slice A acc.length cap))
                have hB12 := blk_seven R11.out (.int .i64 (beVal a0.1 : Nat)) (.int .i64 (beVal a1.1 : Nat)) (.int .i64 (beVal a2.1 : Nat)) (.int .i64 (beVal a3.1 : Nat)) (.int .i64 (beVal a4.1 : Nat)) (.bool ((beVal a5.1 : Int) == 1)) (.slice A acc.length cap)
                have hW12 := below_seven W11.out (Nat.le_refl w.heap.size) (.int .i64 (beVal a0.1 : Nat)) (.int .i64 (beVal a1.1 : Nat)) (.int .i64 (beVal a2.1 : Nat)) (.int .i64 (beVal a3.1 : Nat)) (.int .i64 (beVal a4.1 : Nat)) (.bool ((beVal a5.1 : Int) == 1)) (.slice A acc.length cap)
                have hO12 := own_seven (g := w.heap.size) O11.out (fun e => by have := (O11.out.lt _ e).1; omega) (.int .i64 (beVal a0.1 : Nat)) (.int .i64 (beVal a1.1 : Nat)) (.int .i64 (beVal a2.1 : Nat)) (.int .i64 (beVal a3.1 : Nat)) (.int .i64 (beVal a4.1 : Nat)) (.bool ((beVal a5.1 : Int) == 1)) (.slice A acc.length cap)
                generalize setSeven w11 w.heap.size (.int .i64 (beVal a0.1 : Nat)) (.int .i64 (beVal a1.1 : Nat)) (.int .i64 (beVal a2.1 : Nat)) (.int .i64 (beVal a3.1 : Nat)) (.int .i64 (beVal a4.1 : Nat)) (.bool ((beVal a5.1 : Int) == 1)) (.slice A acc.length cap) = W12 at hB12 hW12 hO12 ⊢
                have hcell := hB12.cell; have hfree := hB12.free; have hlt12 := hB12.lt
                clear hcR hfR hcM hRl
                refine bodyPost_ret (v := .tuple #[.agg #[.int .i64 (beVal a0.1 : Nat), .int .i64 (beVal a1.1 : Nat), .int .i64 (beVal a2.1 : Nat), .int .i64 (beVal a3.1 : Nat), .int .i64 (beVal a4.1 : Nat), .bool ((beVal a5.1 : Int) == 1), .slice A acc.length cap], .int .i64 0]) ?_ rfl ?_
                · simp [results, Tryz.results11, go_sem, hcell, hfree, hlt12]
                · rw [HG.out]
                  exact ⟨A, acc.length, cap, rfl, own_base hO12 (by omega), hW12⟩
              · have y3 : (p.1 == b.toList) = false := by rw [ByteArray.toList_eq]; simpa using z3
                have HG : Hid (getW b.data.toList = (.none, 6)) := Lib.hid (by rw [Hg2.out, if_pos (.inr z3)])
                clear z2 z3
                go_wp2_with fail
                change bodyPost _ _ _ _ _ (setSeven w11 w.heap.size (.int .i64 0) (.int .i64 0) (.int .i64 0) (.int .i64 0) (.int .i64 0) (.bool false) (.slice none 0 0))
                have hB12 := blk_seven R11.out (.int .i64 0) (.int .i64 0) (.int .i64 0) (.int .i64 0) (.int .i64 0) (.bool false) (.slice none 0 0)
                have hW12 := below_seven W11.out (Nat.le_refl w.heap.size) (.int .i64 0) (.int .i64 0) (.int .i64 0) (.int .i64 0) (.int .i64 0) (.bool false) (.slice none 0 0)
                generalize setSeven w11 w.heap.size (.int .i64 0) (.int .i64 0) (.int .i64 0) (.int .i64 0) (.int .i64 0) (.bool false) (.slice none 0 0) = W12 at hB12 hW12 ⊢
                have hcell := hB12.cell; have hfree := hB12.free; have hlt12 := hB12.lt
                clear hcR hfR hcM hRl
                refine bodyPost_ret (v := .tuple #[.agg #[.int .i64 0, .int .i64 0, .int .i64 0, .int .i64 0, .int .i64 0, .bool false, .slice none 0 0], .int .i64 6]) ?_ rfl ?_
                · simp [results, Tryz.results11, go_sem, hcell, hfree, hlt12]
                · rw [HG.out]
                  exact ⟨none, 0, 0, rfl, World.ownsRow_nil _ _ _ _, hW12⟩
            · have y2 : (p.2 != 0) = true := by simpa using z2
              have HG : Hid (getW b.data.toList = (.none, 6)) := Lib.hid (by rw [Hg2.out, if_pos (.inl (.inr z2))])
              clear z2
              go_wp2_with fail
              change bodyPost _ _ _ _ _ (setSeven w11 w.heap.size (.int .i64 0) (.int .i64 0) (.int .i64 0) (.int .i64 0) (.int .i64 0) (.bool false) (.slice none 0 0))
              have hB12 := blk_seven R11.out (.int .i64 0) (.int .i64 0) (.int .i64 0) (.int .i64 0) (.int .i64 0) (.bool false) (.slice none 0 0)
              have hW12 := below_seven W11.out (Nat.le_refl w.heap.size) (.int .i64 0) (.int .i64 0) (.int .i64 0) (.int .i64 0) (.int .i64 0) (.bool false) (.slice none 0 0)
              generalize setSeven w11 w.heap.size (.int .i64 0) (.int .i64 0) (.int .i64 0) (.int .i64 0) (.int .i64 0) (.bool false) (.slice none 0 0) = W12 at hB12 hW12 ⊢
              have hcell := hB12.cell; have hfree := hB12.free; have hlt12 := hB12.lt
              clear hcR hfR hcM hRl
              refine bodyPost_ret (v := .tuple #[.agg #[.int .i64 0, .int .i64 0, .int .i64 0, .int .i64 0, .int .i64 0, .bool false, .slice none 0 0], .int .i64 6]) ?_ rfl ?_
              · simp [results, Tryz.results11, go_sem, hcell, hfree, hlt12]
              · rw [HG.out]
                exact ⟨none, 0, 0, rfl, World.ownsRow_nil _ _ _ _, hW12⟩
          · have y1 : (endL bs x != 0) = true := by simpa using z1
            have HG : Hid (getW b.data.toList = (.none, 6)) := Lib.hid (by rw [Hg2.out, if_pos (.inl (.inl z1))])
            clear z1
            go_wp2_with fail
            change bodyPost _ _ _ _ _ (setSeven w10 w.heap.size (.int .i64 0) (.int .i64 0) (.int .i64 0) (.int .i64 0) (.int .i64 0) (.bool false) (.slice none 0 0))
            have hB12 := blk_seven R10.out (.int .i64 0) (.int .i64 0) (.int .i64 0) (.int .i64 0) (.int .i64 0) (.bool false) (.slice none 0 0)
            have hW12 := below_seven W10.out (Nat.le_refl w.heap.size) (.int .i64 0) (.int .i64 0) (.int .i64 0) (.int .i64 0) (.int .i64 0) (.bool false) (.slice none 0 0)
            generalize setSeven w10 w.heap.size (.int .i64 0) (.int .i64 0) (.int .i64 0) (.int .i64 0) (.int .i64 0) (.bool false) (.slice none 0 0) = W12 at hB12 hW12 ⊢
            have hcell := hB12.cell; have hfree := hB12.free; have hlt12 := hB12.lt
            clear hcR hfR hcM hRl
            refine bodyPost_ret (v := .tuple #[.agg #[.int .i64 0, .int .i64 0, .int .i64 0, .int .i64 0, .int .i64 0, .bool false, .slice none 0 0], .int .i64 6]) ?_ rfl ?_
            · simp [results, Tryz.results11, go_sem, hcell, hfree, hlt12]
            · rw [HG.out]
              exact ⟨none, 0, 0, rfl, World.ownsRow_nil _ _ _ _, hW12⟩
        · go_wp2_with fail
          refine (refEndG w1.heap.size w1.heap.size bs x _ I.out (by omega)).mono ?_
          rintro y w10 ⟨rfl, hg10⟩
          have M10 := Lib.hid (M.out.keptBy hg10 (by omega))
          have R10 := Lib.hid (R.out.keptBy hg10 (by omega))
          have O10 := Lib.hid (O.out.kept hg10 (by cases hq : (Value.slice A acc.length cap).ownBlock with | none => exact .inl rfl | some q => exact .inr (fun e => by have := (O.out.lt q hq).1; injection e with e; omega)))
          have W10 := Lib.hid (W.out.grown hg10 (by exact W.out.size) (fun q hq => by injection hq with hq; omega))
          have hcR := R10.out.cell; have hfR := R10.out.free; have hcM := M10.out.cell; have hRl := R10.out.lt
          clear hg10
          by_cases z1 : endL bs x = 0
          · have y1 : (endL bs x != 0) = false := by simpa using z1
            have hput := refWirePut_any (beVal a0.1 : Nat) (beVal a1.1 : Nat) (beVal a2.1 : Nat) (beVal a3.1 : Nat) (beVal a4.1 : Nat) ((beVal a5.1 : Int) == 1) A acc.length cap w10.heap.size acc w10 (SlR.own O10.out) (Nat.le_refl _) (by omega) (fun s hs => by have := Has.out s hs; omega)
            rw [Hp.out] at hput
            have Hput := Lib.hid hput
            have Z1 := Lib.hid z1
            clear hput z1
            go_wp2_with fail
            refine Hput.out.mono ?_
            rintro y w11 ⟨rfl, hb11⟩
            have M11 := Lib.hid (M10.out.below hb11 M10.out.lt)
            have R11 := Lib.hid (R10.out.below hb11 R10.out.lt)
            have O11 := Lib.hid (own_below O10.out hb11 (fun q hq => (O10.out.lt q hq).2))
            have W11 := Lib.hid (W10.out.trans (hb11.mono W10.out.size))
            clear hcR hfR hcM hRl hb11
            have hcR := R11.out.cell; have hfR := R11.out.free; have hcM := M11.out.cell; have hRl := R11.out.lt
            by_cases z2 : p.2 = 0
            · have y2 : (p.2 != 0) = false := by simpa using z2
              by_cases z3 : p.1 = b.data.toList
              · have y3 : (p.1 == b.toList) = true := by rw [ByteArray.toList_eq]; simpa using z3
                have HG : Hid (getW b.data.toList = (⟨(beVal a0.1 : Nat), (beVal a1.1 : Nat), (beVal a2.1 : Nat), (beVal a3.1 : Nat), (beVal a4.1 : Nat), (beVal a5.1 : Int) == 1, acc⟩, 0)) := Lib.hid (by rw [Hg2.out, if_neg (by rintro ((h | h) | h); exact h Z1.out; exact h z2; exact h z3)])
                clear z2 z3
                go_wp2_with fail
                change bodyPost _ _ _ _ _ (setSeven w11 w.heap.size (.int .i64 (beVal a0.1 : Nat)) (.int .i64 (beVal a1.1 : Nat)) (.int .i64 (beVal a2.1 : Nat)) (.int .i64 (beVal a3.1 : Nat)) (.int .i64 (beVal a4.1 : Nat)) (.bool ((beVal a5.1 : Int) == 1)) (.slice A acc.length cap))
                have hB12 := blk_seven R11.out (.int .i64 (beVal a0.1 : Nat)) (.int .i64 (beVal a1.1 : Nat)) (.int .i64 (beVal a2.1 : Nat)) (.int .i64 (beVal a3.1 : Nat)) (.int .i64 (beVal a4.1 : Nat)) (.bool ((beVal a5.1 : Int) == 1)) (.slice A acc.length cap)
                have hW12 := below_seven W11.out (Nat.le_refl w.heap.size) (.int .i64 (beVal a0.1 : Nat)) (.int .i64 (beVal a1.1 : Nat)) (.int .i64 (beVal a2.1 : Nat)) (.int .i64 (beVal a3.1 : Nat)) (.int .i64 (beVal a4.1 : Nat)) (.bool ((beVal a5.1 : Int) == 1)) (.slice A acc.length cap)
                have hO12 := own_seven (g := w.heap.size) O11.out (fun e => by have := (O11.out.lt _ e).1; omega) (.int .i64 (beVal a0.1 : Nat)) (.int .i64 (beVal a1.1 : Nat)) (.int .i64 (beVal a2.1 : Nat)) (.int .i64 (beVal a3.1 : Nat)) (.int .i64 (beVal a4.1 : Nat)) (.bool ((beVal a5.1 : Int) == 1)) (.slice A acc.length cap)
                generalize setSeven w11 w.heap.size (.int .i64 (beVal a0.1 : Nat)) (.int .i64 (beVal a1.1 : Nat)) (.int .i64 (beVal a2.1 : Nat)) (.int .i64 (beVal a3.1 : Nat)) (.int .i64 (beVal a4.1 : Nat)) (.bool ((beVal a5.1 : Int) == 1)) (.slice A acc.length cap) = W12 at hB12 hW12 hO12 ⊢
                have hcell := hB12.cell; have hfree := hB12.free; have hlt12 := hB12.lt
                clear hcR hfR hcM hRl
                refine bodyPost_ret (v := .tuple #[.agg #[.int .i64 (beVal a0.1 : Nat), .int .i64 (beVal a1.1 : Nat), .int .i64 (beVal a2.1 : Nat), .int .i64 (beVal a3.1 : Nat), .int .i64 (beVal a4.1 : Nat), .bool ((beVal a5.1 : Int) == 1), .slice A acc.length cap], .int .i64 0]) ?_ rfl ?_
                · simp [results, Tryz.results11, go_sem, hcell, hfree, hlt12]
                · rw [HG.out]
                  exact ⟨A, acc.length, cap, rfl, own_base hO12 (by omega), hW12⟩
              · have y3 : (p.1 == b.toList) = false := by rw [ByteArray.toList_eq]; simpa using z3
                have HG : Hid (getW b.data.toList = (.none, 6)) := Lib.hid (by rw [Hg2.out, if_pos (.inr z3)])
                clear z2 z3
                go_wp2_with fail
                change bodyPost _ _ _ _ _ (setSeven w11 w.heap.size (.int .i64 0) (.int .i64 0) (.int .i64 0) (.int .i64 0) (.int .i64 0) (.bool false) (.slice none 0 0))
                have hB12 := blk_seven R11.out (.int .i64 0) (.int .i64 0) (.int .i64 0) (.int .i64 0) (.int .i64 0) (.bool false) (.slice none 0 0)
                have hW12 := below_seven W11.out (Nat.le_refl w.heap.size) (.int .i64 0) (.int .i64 0) (.int .i64 0) (.int .i64 0) (.int .i64 0) (.bool false) (.slice none 0 0)
                generalize setSeven w11 w.heap.size (.int .i64 0) (.int .i64 0) (.int .i64 0) (.int .i64 0) (.int .i64 0) (.bool false) (.slice none 0 0) = W12 at hB12 hW12 ⊢
                have hcell := hB12.cell; have hfree := hB12.free; have hlt12 := hB12.lt
                clear hcR hfR hcM hRl
                refine bodyPost_ret (v := .tuple #[.agg #[.int .i64 0, .int .i64 0, .int .i64 0, .int .i64 0, .int .i64 0, .bool false, .slice none 0 0], .int .i64 6]) ?_ rfl ?_
                · simp [results, Tryz.results11, go_sem, hcell, hfree, hlt12]
                · rw [HG.out]
                  exact ⟨none, 0, 0, rfl, World.ownsRow_nil _ _ _ _, hW12⟩
            · have y2 : (p.2 != 0) = true := by simpa using z2
              have HG : Hid (getW b.data.toList = (.none, 6)) := Lib.hid (by rw [Hg2.out, if_pos (.inl (.inr z2))])
              clear z2
              go_wp2_with fail
              change bodyPost _ _ _ _ _ (setSeven w11 w.heap.size (.int .i64 0) (.int .i64 0) (.int .i64 0) (.int .i64 0) (.int .i64 0) (.bool false) (.slice none 0 0))
              have hB12 := blk_seven R11.out (.int .i64 0) (.int .i64 0) (.int .i64 0) (.int .i64 0) (.int .i64 0) (.bool false) (.slice none 0 0)
              have hW12 := below_seven W11.out (Nat.le_refl w.heap.size) (.int .i64 0) (.int .i64 0) (.int .i64 0) (.int .i64 0) (.int .i64 0) (.bool false) (.slice none 0 0)
              generalize setSeven w11 w.heap.size (.int .i64 0) (.int .i64 0) (.int .i64 0) (.int .i64 0) (.int .i64 0) (.bool false) (.slice none 0 0) = W12 at hB12 hW12 ⊢
              have hcell := hB12.cell; have hfree := hB12.free; have hlt12 := hB12.lt
              clear hcR hfR hcM hRl
              refine bodyPost_ret (v := .tuple #[.agg #[.int .i64 0, .int .i64 0, .int .i64 0, .int .i64 0, .int .i64 0, .bool false, .slice none 0 0], .int .i64 6]) ?_ rfl ?_
              · simp [results, Tryz.results11, go_sem, hcell, hfree, hlt12]
              · rw [HG.out]
                exact ⟨none, 0, 0, rfl, World.ownsRow_nil _ _ _ _, hW12⟩
          · have y1 : (endL bs x != 0) = true := by simpa using z1
            have HG : Hid (getW b.data.toList = (.none, 6)) := Lib.hid (by rw [Hg2.out, if_pos (.inl (.inl z1))])
            clear z1
            go_wp2_with fail
            change bodyPost _ _ _ _ _ (setSeven w10 w.heap.size (.int .i64 0) (.int .i64 0) (.int .i64 0) (.int .i64 0) (.int .i64 0) (.bool false) (.slice none 0 0))
            have hB12 := blk_seven R10.out (.int .i64 0) (.int .i64 0) (.int .i64 0) (.int .i64 0) (.int .i64 0) (.bool false) (.slice none 0 0)
            have hW12 := below_seven W10.out (Nat.le_refl w.heap.size) (.int .i64 0) (.int .i64 0) (.int .i64 0) (.int .i64 0) (.int .i64 0) (.bool false) (.slice none 0 0)
            generalize setSeven w10 w.heap.size (.int .i64 0) (.int .i64 0) (.int .i64 0) (.int .i64 0) (.int .i64 0) (.bool false) (.slice none 0 0) = W12 at hB12 hW12 ⊢
            have hcell := hB12.cell; have hfree := hB12.free; have hlt12 := hB12.lt
            clear hcR hfR hcM hRl
            refine bodyPost_ret (v := .tuple #[.agg #[.int .i64 0, .int .i64 0, .int .i64 0, .int .i64 0, .int .i64 0, .bool false, .slice none 0 0], .int .i64 6]) ?_ rfl ?_
            · simp [results, Tryz.results11, go_sem, hcell, hfree, hlt12]
            · rw [HG.out]
              exact ⟨none, 0, 0, rfl, World.ownsRow_nil _ _ _ _, hW12⟩
  · have y1 : (o.2 != 0) = true := by simpa using hoe
    have HG : Hid (getW b.data.toList = (.none, o.2)) := Lib.hid (by unfold getW; rw [Ho.out, if_pos hoe])
    clear hoe
    go_enter Tryz.func11, Tryz.ntmps11
    go_wp2_with fail
    refine Hop.out.mono ?_
    rintro x w1 ⟨rfl, hb1⟩
    have R1 := HR.out.below hb1 HR.out.lt
    have W1 := Hb0.out.trans (hb1.mono (by simp))
    have hcR := R1.cell; have hfR := R1.free; have hRl := R1.lt
    clear hb1
    go_wp2_with fail
    change bodyPost _ _ _ _ _ (setSeven w1 w.heap.size (.int .i64 0) (.int .i64 0) (.int .i64 0) (.int .i64 0) (.int .i64 0) (.bool false) (.slice none 0 0))
    have hB12 := blk_seven R1 (.int .i64 0) (.int .i64 0) (.int .i64 0) (.int .i64 0) (.int .i64 0) (.bool false) (.slice none 0 0)
    have hW12 := below_seven W1 (Nat.le_refl w.heap.size) (.int .i64 0) (.int .i64 0) (.int .i64 0) (.int .i64 0) (.int .i64 0) (.bool false) (.slice none 0 0)
    generalize setSeven w1 w.heap.size (.int .i64 0) (.int .i64 0) (.int .i64 0) (.int .i64 0) (.int .i64 0) (.bool false) (.slice none 0 0) = W12 at hB12 hW12 ⊢
    have hcell := hB12.cell; have hfree := hB12.free; have hlt12 := hB12.lt
    clear hcR hfR hRl
    refine bodyPost_ret (v := .tuple #[.agg #[.int .i64 0, .int .i64 0, .int .i64 0, .int .i64 0, .int .i64 0, .bool false, .slice none 0 0], .int .i64 o.2]) ?_ rfl ?_
    · simp [results, Tryz.results11, go_sem, hcell, hfree, hlt12]
    · rw [HG.out]
      exact ⟨none, 0, 0, rfl, World.ownsRow_nil _ _ _ _, hW12⟩
end Go.Proofs.YtadhboioaacaeaaGreat
