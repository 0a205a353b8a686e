/- chapter 13: Len, All. -/
import Derived.Test.YtfkkcgdniepgoaaGreatCTableMergesTblOpen
import Derived.Test.YtfkkcgdniepgoaaGreatJTableMerges6

namespace Go.Proofs.YtfkkcgdniepgoaaGreat
open Go.RowKit
set_option maxHeartbeats 2000000
set_option maxRecDepth 100000
set_option linter.unusedVariables false

theorem TblIs.below {w w' : World} {base g B : Nat} {l : List En} (h : TblIs w base g l) (hb : Below B w w') (hB : w.heap.size ≤ B) : TblIs w' base g l := by
  obtain ⟨v, h1, h2, h3⟩ := h
  exact ⟨v, h1.below hb (Nat.lt_of_lt_of_le h1.lt hB), h2, own_below h3 hb (fun q hq => Nat.lt_of_lt_of_le (h3.lt q hq).2 hB)⟩
theorem TblIs.lt {w : World} {base g : Nat} {l : List En} (h : TblIs w base g l) : g < w.heap.size := by obtain ⟨v, h1, _⟩ := h; exact h1.lt

theorem tblLen_any (base T : Nat) (l : List En) (w : World) (h : TblIs w base T l) (hn : l.length ≤ 1000000) :
    Calls Tryz.prog 27 #[.pointer (some ⟨T, 0, none⟩)] w fun x w' => x = .returned (.int .i64 (l.length : Int)) ∧ w = w' := by
  obtain ⟨v, hB, hb, hr⟩ := h
  have hc0 := hB.cell 0
  obtain ⟨A, c, rfl, hnc⟩ := own_slice hr
  simp at hc0
  clear hB hr
  go_enter Tryz.func27, Tryz.ntmps27
  go_wp2_with fail
  go_ret
  exact ⟨rfl, rfl⟩

theorem tblAll_any (base T : Nat) (l : List En) (w : World) (h : TblIs w base T l) (hn : l.length ≤ 1000000) :
    Calls Tryz.prog 13 #[.pointer (some ⟨T, 0, none⟩)] w fun x w' => ∃ u, x = .returned u ∧ w'.ownsRow w.heap.size 53 3 u l.length (enVs l) ∧ Below w.heap.size w w' := by
  obtain ⟨v, hB, hb, hr⟩ := h
  have hc0 := hB.cell 0
  obtain ⟨A, c, rfl, hnc⟩ := own_slice hr
  simp at hc0
  have hnil : A = none → l.length = 0 ∧ c = 0 := by
    rintro rfl
    rcases hr.2 with ⟨h1, h2⟩ | ⟨g, cap, cur, h1, _⟩
    · injection h1 with h3 h4 h5; exact ⟨h2, h5⟩
    · injection h1 with h3; cases h3
  have hcl := clone_any A l.length c w.heap.size l w (SlR.own hr) (Nat.le_refl _) hn hnil
  clear hB hr
  go_enter Tryz.func13, Tryz.ntmps13
  go_wp2_with (go_at_call 47; refine hcl.mono ?_; rintro x w1 ⟨u, rfl, hown1, hb1⟩)
  go_ret
  exact ⟨u, rfl, hown1, hb1⟩
end Go.Proofs.YtfkkcgdniepgoaaGreat

/- chapter 13: Mids. -/
namespace Go.Proofs.YtfkkcgdniepgoaaGreat
open Go.RowKit
set_option maxHeartbeats 4000000
set_option maxRecDepth 100000
set_option linter.unusedVariables false

/-- the midpoints of the first k of n entries -/
def midsTo (l : List En) : Nat → List En
  | 0 => []
  | k + 1 => midsTo l k ++ (match l[k]? with | some e => if k % 8 = 0 ∨ k + 1 = l.length then [e] else [] | none => [])
def midsE (l : List En) : List En := midsTo l l.length
theorem midsTo_length (l : List En) (k : Nat) : (midsTo l k).length ≤ k := by
  induction k with
  | zero => simp [midsTo]
  | succ k ih =>
    rw [midsTo, List.length_append]
    have : (match l[k]? with | some e => if k % 8 = 0 ∨ k + 1 = l.length then [e] else [] | none => ([] : List En)).length ≤ 1 := by
      split
      · split <;> simp
      · simp
    omega

theorem tblMids_any (base T : Nat) (l : List En) (w : World) (h : TblIs w base T l) (hn : l.length ≤ 1000000) :
    Calls Tryz.prog 16 #[.pointer (some ⟨T, 0, none⟩)] w fun x w' => ∃ u, x = .returned u ∧ w'.ownsRow w.heap.size 53 3 u (midsE l).length (enVs (midsE l)) ∧ Below w.heap.size w w' := by
  obtain ⟨i0, hi0, hz0, hz1, hz2⟩ := info_parts info_en
  have hal := tblAll_any base T l w h hn
  have HTt := Lib.hid h; have Hal := Lib.hid hal
  clear h hal
  go_enter Tryz.func16, Tryz.ntmps16
  go_wp2_with fail
  refine Hal.out.mono ?_
  rintro x w1 ⟨u, rfl, hown1, hb1⟩
  obtain ⟨A, c, rfl, hnc⟩ := own_slice hown1
  have Hr := Lib.hid (SlR.own hown1)
  have Hb1 := Lib.hid hb1
  have Ht1 := Lib.hid (HTt.out.below hb1 (Nat.le_refl _))
  clear hown1 hb1 hnc
  go_wp2_with fail
  go_loopw [3, 9] (fun o i wr => ∃ (k : Nat) (u : Value), u = o ∧ k ≤ l.length ∧ i = .int .i64 (k : Int) ∧ Hid (wr.ownsRow w1.heap.size 53 3 u (midsTo l k).length (enVs (midsTo l k)) ∧ Below w1.heap.size w1 wr)) (fun _ i _ => l.length - (intOf i).toNat)
  case atStart => exact ⟨0, _, rfl, Nat.zero_le _, rfl, Lib.hid ⟨World.ownsRow_nil _ _ _ _, Below.refl _ _⟩⟩
  case round =>
    obtain ⟨k, u, rfl, hk, rfl, HI⟩ := hrel
    have hk0 : 0 ≤ (k : Int) := by omega
    by_cases hlt : k < l.length
    · obtain ⟨ad, x, rfl, had, hx, hat⟩ := (Hr.out.below HI.out.2).en (k := k) (by omega)
      obtain ⟨x0, x1, x2⟩ := x
      obtain ⟨a0, a1, a2⟩ := id hat
      dsimp only at a0 a1 a2
      have Hx := Lib.hid hx
      have hlt1 : (k : Int) < (l.length : Int) := by omega
      have hk9 : (k : Int) ≤ 1000000 := by omega
      have hlen := fun w9 (h9 : TblIs w9 base T l) => tblLen_any base T l w9 h9 hn
      have Ht9 := Lib.hid (Ht1.out.below HI.out.2 (Nat.le_refl _))
      have Hlen := Lib.hid hlen
      obtain ⟨V, hV⟩ : ∃ V, wr.alloc (.cells #[.int .i64 x0, .int .i64 x1, .int .i64 x2] 53) = V := ⟨_, rfl⟩
      have hE : BlkIs V wr.heap.size 53 #[.int .i64 x0, .int .i64 x1, .int .i64 x2] := by rw [← hV]; exact BlkIs.new _ _ _
      have hbV : Below wr.heap.size wr V := by rw [← hV]; exact (Below.refl _ _).alloc (Nat.le_refl _) _
      have b0 := hE.cell 0; have b1 := hE.cell 1; have b2 := hE.cell 2
      have HtV := Lib.hid (Ht9.out.below hbV (Nat.le_refl _))
      have HoV := Lib.hid (own_below HI.out.1 hbV (fun q hq => (HI.out.1.lt q hq).2))
      have HbV := Lib.hid (HI.out.2.trans (hbV.mono HI.out.2.size))
      clear hx hat hlen hE hbV
      have hsn : midsTo l (k + 1) = midsTo l k ++ (if k % 8 = 0 ∨ k + 1 = l.length then [(x0, x1, x2)] else []) := by rw [midsTo, Hx.out]
      have hFl := midsTo_length l k
      have HI2 := Lib.hid HI.out.2
      have hbs := HbV.out.size
      clear HI
      generalize midsTo l k = F at hsn hFl HoV
      have hwl : IntKind.i64.wrap ((l.length : Int) - 1) = (l.length : Int) - 1 := IntWalk.i64_in _ (by omega)
      by_cases h8 : k % 8 = 0
      · have hd8 : ((k : Int) % 8 == 0) = true := by rw [beq_iff_eq]; omega
        have Hsn := Lib.hid (hsn.trans (by rw [if_pos (.inl h8)]))
        clear hsn
        go_wp2_with (at_builtin; refine wpList_append_lies _ rfl (.tmp 24) (.tmp 26) _ rfl w1.heap.size 53 i0 _ 3 24 Tryz.underlying22 hi0 hz0 hz1 hz2 rfl (by omega) u F.length (enVs F) rfl (HoV.out.alloc _) ⟨V.heap.size, 0, none⟩ 1 1 (enC (x0, x1, x2)) rfl rfl (World.news_of_block (cs := #[.int .i64 x0, .int .i64 x1, .int .i64 x2]) (heap_alloc_new V _)) (enC_one _) (by omega) (by simp only [maxLen]; omega) (by omega) (by simp <;> omega) (V.heap.size + 1) (by simp) ?_; intro g cp w2 hown2 hgrow hat2 hlt2)
        have hb2 : Below w1.heap.size w1 w2 := (HbV.out.alloc HbV.out.size (.cells #[.int .i64 x0, .int .i64 x1, .int .i64 x2] 53)).grown hgrow (by simp <;> omega) (fun q hq => (HoV.out.lt q hq).1)
        have hfin : Hid (w2.ownsRow w1.heap.size 53 3 (.slice (some ⟨g, 0, none⟩) (F.length + 1) cp) (midsTo l (k + 1)).length (enVs (midsTo l (k + 1))) ∧ Below w1.heap.size w1 w2) := Lib.hid ⟨by rw [Hsn.out, enVs_append]; simpa [enVs] using hown2, hb2⟩
        clear hown2 hgrow hat2 hlt2 hb2
        go_roundw
        case rel => exact ⟨k + 1, _, rfl, by omega, by go_num, hfin⟩
        case measure => simp [intOf]; omega
      · have hd8 : ((k : Int) % 8 == 0) = false := by rw [beq_eq_false_iff_ne]; omega
        by_cases h9 : k + 1 = l.length
        · have hd9 : ((k : Int) == (l.length : Int) - 1) = true := by rw [beq_iff_eq]; omega
          have Hsn := Lib.hid (hsn.trans (by rw [if_pos (.inr h9)]))
          clear hsn h9
          go_wp2_with fail
          refine (Hlen.out _ HtV.out).mono ?_
          rintro e wy ⟨rfl, rfl⟩
          go_wp2_with (at_builtin; refine wpList_append_lies _ rfl (.tmp 24) (.tmp 26) _ rfl w1.heap.size 53 i0 _ 3 24 Tryz.underlying22 hi0 hz0 hz1 hz2 rfl (by omega) u F.length (enVs F) rfl (HoV.out.alloc _) ⟨V.heap.size, 0, none⟩ 1 1 (enC (x0, x1, x2)) rfl rfl (World.news_of_block (cs := #[.int .i64 x0, .int .i64 x1, .int .i64 x2]) (heap_alloc_new V _)) (enC_one _) (by omega) (by simp only [maxLen]; omega) (by omega) (by simp <;> omega) (V.heap.size + 1) (by simp) ?_; intro g cp w2 hown2 hgrow hat2 hlt2)
          have hb2 : Below w1.heap.size w1 w2 := (HbV.out.alloc HbV.out.size (.cells #[.int .i64 x0, .int .i64 x1, .int .i64 x2] 53)).grown hgrow (by simp <;> omega) (fun q hq => (HoV.out.lt q hq).1)
          have hfin : Hid (w2.ownsRow w1.heap.size 53 3 (.slice (some ⟨g, 0, none⟩) (F.length + 1) cp) (midsTo l (k + 1)).length (enVs (midsTo l (k + 1))) ∧ Below w1.heap.size w1 w2) := Lib.hid ⟨by rw [Hsn.out, enVs_append]; simpa [enVs] using hown2, hb2⟩
          clear hown2 hgrow hat2 hlt2 hb2
          go_roundw
          case rel => exact ⟨k + 1, _, rfl, by omega, by go_num, hfin⟩
          case measure => simp [intOf]; omega
        · have hd9 : ((k : Int) == (l.length : Int) - 1) = false := by rw [beq_eq_false_iff_ne]; omega
          have Hsn := Lib.hid (hsn.trans (by rw [if_neg (fun q => q.elim h8 h9), List.append_nil]))
          clear hsn
          go_wp2_with fail
          refine (Hlen.out _ HtV.out).mono ?_
          rintro e wy ⟨rfl, rfl⟩
          go_wp2_with fail
          have hfin : Hid (V.ownsRow w1.heap.size 53 3 u (midsTo l (k + 1)).length (enVs (midsTo l (k + 1))) ∧ Below w1.heap.size w1 V) := Lib.hid ⟨by rw [Hsn.out]; exact HoV.out, HbV.out⟩
          go_roundw
          case rel => exact ⟨k + 1, u, rfl, by omega, by go_num, hfin⟩
          case measure => simp [intOf]; omega
    · obtain rfl : k = l.length := by omega
      go_wp2_with fail
      go_ret
      exact ⟨u, rfl, own_mono HI.out.1 Hb1.out.size, Hb1.out.trans (HI.out.2.mono Hb1.out.size)⟩
end Go.Proofs.YtfkkcgdniepgoaaGreat

/- sort.Search with any closure that answers as a threshold does. -/
namespace Go.Proofs.YtfkkcgdniepgoaaGreat
open Go.RowKit
set_option maxHeartbeats 4000000
set_option maxRecDepth 100000
set_option linter.unusedVariables false

theorem sortSearch_one (c1 c2 : Value) (N r : Nat) (w : World) (hr : r ≤ N) (hN : N ≤ 1000000)
    (hf : ∀ k, k < N → ∀ wx, Below w.heap.size w wx → Calls Tryz.prog 96 #[.int .i64 (k : Int), c1, c2] wx fun x w' => x = .returned (.bool (decide (r ≤ k))) ∧ Below wx.heap.size wx w') :
    Calls Tryz.prog 95 #[.int .i64 (N : Int), .func (.func 96) #[] #[c1, c2]] w fun x w' => x = .returned (.int .i64 (r : Int)) ∧ Below w.heap.size w w' := by
  have Hf := Lib.hid hf
  clear hf
  go_enter Tryz.func95, Tryz.ntmps95
  go_wp2_with fail
  go_loopw [5, 6] (fun i j wr => ∃ a b : Nat, i = .int .i64 a ∧ j = .int .i64 b ∧ a ≤ r ∧ r ≤ b ∧ b ≤ N ∧ Hid (Below w.heap.size w wr)) (fun i j _ => (intOf j - intOf i).toNat)
  case atStart => exact ⟨0, N, rfl, rfl, by omega, by omega, by omega, Lib.hid (Below.refl _ _)⟩
  case round =>
    obtain ⟨a, b, rfl, rfl, ha, hb, hbn, Hbe⟩ := hrel
    by_cases hlt : a < b
    · have hab : (a : Int) < b := by omega
      obtain ⟨q, hq, hq1, hq2⟩ : ∃ q : Nat, ((a : Int) + b) / 2 = (q : Int) ∧ a ≤ q ∧ q < b := ⟨(a + b) / 2, by omega, by omega, by omega⟩
      have hfq := Hf.out q (by omega) _ Hbe.out
      have Hfq := Lib.hid hfq
      clear hfq
      go_wp2_with fail
      by_cases hqr : r ≤ q
      · have Hfq := Lib.hid (show Calls Tryz.prog 96 #[.int .i64 (q : Int), c1, c2] wr fun x w' => x = .returned (.bool true) ∧ Below wr.heap.size wr w' from by have h := Hfq.out; rwa [decide_eq_true hqr] at h)
        refine Hfq.out.mono ?_
        rintro e wx ⟨rfl, hbx⟩
        have HB := Lib.hid (Hbe.out.trans (hbx.mono Hbe.out.size))
        clear hbx
        go_wp2_with fail
        go_roundw
        case rel => exact ⟨a, q, rfl, rfl, by omega, by omega, by omega, HB⟩
        case measure => simp [intOf]; omega
      · have Hfq := Lib.hid (show Calls Tryz.prog 96 #[.int .i64 (q : Int), c1, c2] wr fun x w' => x = .returned (.bool false) ∧ Below wr.heap.size wr w' from by have h := Hfq.out; rwa [decide_eq_false hqr] at h)
        refine Hfq.out.mono ?_
        rintro e wx ⟨rfl, hbx⟩
        have HB := Lib.hid (Hbe.out.trans (hbx.mono Hbe.out.size))
        clear hbx
        go_wp2_with fail
        go_roundw
        case rel => exact ⟨q + 1, b, rfl, rfl, by omega, by omega, by omega, HB⟩
        case measure => simp [intOf]; omega
    · obtain rfl : a = r := by omega
      obtain rfl : b = a := by omega
      have hab : decide ((b : Int) < b) = false := by simp
      go_wp2_with fail
      go_ret
      exact ⟨rfl, Hbe.out⟩

theorem sortSearch_two (c1 c2 c3 : Value) (N r : Nat) (w : World) (hr : r ≤ N) (hN : N ≤ 1000000)
    (hf : ∀ k, k < N → ∀ wx, Below w.heap.size w wx → Calls Tryz.prog 97 #[.int .i64 (k : Int), c1, c2, c3] wx fun x w' => x = .returned (.bool (decide (r ≤ k))) ∧ Below wx.heap.size wx w') :
    Calls Tryz.prog 95 #[.int .i64 (N : Int), .func (.func 97) #[] #[c1, c2, c3]] w fun x w' => x = .returned (.int .i64 (r : Int)) ∧ Below w.heap.size w w' := by
  have Hf := Lib.hid hf
  clear hf
  go_enter Tryz.func95, Tryz.ntmps95
  go_wp2_with fail
  go_loopw [5, 6] (fun i j wr => ∃ a b : Nat, i = .int .i64 a ∧ j = .int .i64 b ∧ a ≤ r ∧ r ≤ b ∧ b ≤ N ∧ Hid (Below w.heap.size w wr)) (fun i j _ => (intOf j - intOf i).toNat)
  case atStart => exact ⟨0, N, rfl, rfl, by omega, by omega, by omega, Lib.hid (Below.refl _ _)⟩
  case round =>
    obtain ⟨a, b, rfl, rfl, ha, hb, hbn, Hbe⟩ := hrel
    by_cases hlt : a < b
    · have hab : (a : Int) < b := by omega
      obtain ⟨q, hq, hq1, hq2⟩ : ∃ q : Nat, ((a : Int) + b) / 2 = (q : Int) ∧ a ≤ q ∧ q < b := ⟨(a + b) / 2, by omega, by omega, by omega⟩
      have hfq := Hf.out q (by omega) _ Hbe.out
      have Hfq := Lib.hid hfq
      clear hfq
      go_wp2_with fail
      by_cases hqr : r ≤ q
      · have Hfq := Lib.hid (show Calls Tryz.prog 97 #[.int .i64 (q : Int), c1, c2, c3] wr fun x w' => x = .returned (.bool true) ∧ Below wr.heap.size wr w' from by have h := Hfq.out; rwa [decide_eq_true hqr] at h)
        refine Hfq.out.mono ?_
        rintro e wx ⟨rfl, hbx⟩
        have HB := Lib.hid (Hbe.out.trans (hbx.mono Hbe.out.size))
        clear hbx
        go_wp2_with fail
        go_roundw
        case rel => exact ⟨a, q, rfl, rfl, by omega, by omega, by omega, HB⟩
        case measure => simp [intOf]; omega
      · have Hfq := Lib.hid (show Calls Tryz.prog 97 #[.int .i64 (q : Int), c1, c2, c3] wr fun x w' => x = .returned (.bool false) ∧ Below wr.heap.size wr w' from by have h := Hfq.out; rwa [decide_eq_false hqr] at h)
        refine Hfq.out.mono ?_
        rintro e wx ⟨rfl, hbx⟩
        have HB := Lib.hid (Hbe.out.trans (hbx.mono Hbe.out.size))
        clear hbx
        go_wp2_with fail
        go_roundw
        case rel => exact ⟨q + 1, b, rfl, rfl, by omega, by omega, by omega, HB⟩
        case measure => simp [intOf]; omega
    · obtain rfl : a = r := by omega
      obtain rfl : b = a := by omega
      have hab : decide ((b : Int) < b) = false := by simp
      go_wp2_with fail
      go_ret
      exact ⟨rfl, Hbe.out⟩
end Go.Proofs.YtfkkcgdniepgoaaGreat

/- chapter 13: from's second closure. -/
namespace Go.Proofs.YtfkkcgdniepgoaaGreat
open Go.RowKit
set_option maxHeartbeats 4000000
set_option maxRecDepth 100000
set_option linter.unusedVariables false

/-- the second closure of from: is the entry at o + k not ahead of e? -/
theorem fromTwo_any (M O E : Nat) (A : Option Addr) (n c B o k : Nat) (ms : List En) (x e : En) (w : World) (hM : BlkIs w M 22 #[.slice A n c]) (hO : BlkIs w O 3 #[.int .i64 (o : Int)]) (hE : BlkIs w E 53 #[.int .i64 e.1, .int .i64 e.2.1, .int .i64 e.2.2]) (hr : SlR w B 3 A n (enVs ms)) (hB : B ≤ w.heap.size) (hn : n ≤ 1000000) (hk : o + k < n) (hx : ms[o + k]? = some x) :
    Calls Tryz.prog 97 #[.int .i64 (k : Int), .pointer (some ⟨M, 0, none⟩), .pointer (some ⟨O, 0, none⟩), .pointer (some ⟨E, 0, none⟩)] w fun z w' => z = .returned (.bool (!ltE x e)) ∧ Below w.heap.size w w' := by
  obtain ⟨q, hq⟩ : ∃ q, o + k = q := ⟨_, rfl⟩
  rw [hq] at hk hx
  obtain ⟨ad, x', rfl, had, hx', hat⟩ := hr.en hk
  rw [hx] at hx'
  injection hx' with hx'
  subst hx'
  obtain ⟨x0, x1, x2⟩ := x
  obtain ⟨e0, e1, e2⟩ := e
  have hless := fun w => less_any (x0, x1, x2) (e0, e1, e2) w
  unfold enA at hless
  dsimp only at hless
  have Hless := Lib.hid hless
  have hk1 : (q : Int) < (n : Int) := by omega
  have hk1' : (o : Int) + (k : Int) = (q : Int) := by omega
  have hwk : IntKind.i64.wrap ((o : Int) + (k : Int)) = (q : Int) := by rw [IntWalk.i64_in _ (by omega)]; omega
  have hwk2 : IntKind.i64.wrap (q : Int) = (q : Int) := IntWalk.i64_in _ (by omega)
  have hk0 : 0 ≤ (q : Int) := by omega
  have hS : ∀ wx, Below w.heap.size w wx → wx.cell? ⟨M, 0, none⟩ = some (.slice (some ad) n c) ∧ wx.cell? (ad.add (q * 3)) = some (.int .i64 x0) ∧ wx.cell? ⟨(ad.add (q * 3)).block, (ad.add (q * 3)).off + 1, none⟩ = some (.int .i64 x1) ∧ wx.cell? ⟨(ad.add (q * 3)).block, (ad.add (q * 3)).off + 2, none⟩ = some (.int .i64 x2) ∧ wx.cell? ⟨O, 0, none⟩ = some (.int .i64 (o : Int)) ∧ wx.cell? ⟨E, 0, none⟩ = some (.int .i64 e0) ∧ wx.cell? ⟨E, 1, none⟩ = some (.int .i64 e1) ∧ wx.cell? ⟨E, 2, none⟩ = some (.int .i64 e2) := fun wx h => by
    have f1 := hat.below h (by rw [add_block]; exact Nat.lt_of_lt_of_le had hB)
    have f2 := (hE.below h hE.lt).cell; have f3 := (hM.below h hM.lt).cell
    exact ⟨f3 0, f1.1, f1.2.1, f1.2.2, (hO.below h hO.lt).cell 0, f2 0, f2 1, f2 2⟩
  have HS := Lib.hid hS
  have HB := Below.refl w.heap.size w
  clear hless hat hx hr hM hO hE hS
  go_enter Tryz.func97, Tryz.ntmps97
  go_wp2_with fail
  refine wp_region_held_drew (S := (fun wx => wx.cell? ⟨M, 0, none⟩ = some (.slice (some ad) n c) ∧ wx.cell? (ad.add (q * 3)) = some (.int .i64 x0) ∧ wx.cell? ⟨(ad.add (q * 3)).block, (ad.add (q * 3)).off + 1, none⟩ = some (.int .i64 x1) ∧ wx.cell? ⟨(ad.add (q * 3)).block, (ad.add (q * 3)).off + 2, none⟩ = some (.int .i64 x2) ∧ wx.cell? ⟨O, 0, none⟩ = some (.int .i64 (o : Int)) ∧ wx.cell? ⟨E, 0, none⟩ = some (.int .i64 e0) ∧ wx.cell? ⟨E, 1, none⟩ = some (.int .i64 e1) ∧ wx.cell? ⟨E, 2, none⟩ = some (.int .i64 e2))) (by kernel_rfl) (HS.out _ (below_drewN HB 1)) (fun hHeld => ?_)
  refine take_at 0 (some 6) (v := ?_) rfl (by kernel_rfl) (by kernel_rfl) (by kernel_rfl) (by kernel_rfl) (fun _ _ _ h => h) (Or.inl ⟨by kernel_rfl, ?_⟩) (by assumption) ?_
  rotate_left
  · (intro w hSw; (try dsimp only at hSw); go_simp; try with_reducible rfl)
  try simp only [Act.put, List.setIfInBounds_toArray, List.set_cons_zero, List.set_cons_succ]
  refine take_at 1 (some 7) (v := ?_) rfl (by kernel_rfl) (by kernel_rfl) (by kernel_rfl) (by kernel_rfl) (fun _ _ _ h => h) (Or.inl ⟨by kernel_rfl, ?_⟩) (by assumption) ?_
  rotate_left
  · (intro w hSw; (try dsimp only at hSw); go_simp; try with_reducible rfl)
  try simp only [Act.put, List.setIfInBounds_toArray, List.set_cons_zero, List.set_cons_succ]
  refine take_at 2 (some 8) (v := ?_) rfl (by kernel_rfl) (by kernel_rfl) (by kernel_rfl) (by kernel_rfl) (fun _ _ _ h => h) (Or.inl ⟨by kernel_rfl, ?_⟩) (by assumption) ?_
  rotate_left
  · (intro w hSw; (try dsimp only at hSw); go_simp; try with_reducible rfl)
  try simp only [Act.put, List.setIfInBounds_toArray, List.set_cons_zero, List.set_cons_succ]
  refine take_at 3 (some 9) (v := ?_) rfl (by kernel_rfl) (by kernel_rfl) (by kernel_rfl) (by kernel_rfl) (fun _ _ _ h => h) (Or.inl ⟨by kernel_rfl, ?_⟩) (by assumption) ?_
  rotate_left
  · (intro w hSw; (try dsimp only at hSw); go_simp; try with_reducible rfl)
  try simp only [Act.put, List.setIfInBounds_toArray, List.set_cons_zero, List.set_cons_succ]
  refine take_at 4 (some 10) (v := ?_) rfl (by kernel_rfl) (by kernel_rfl) (by kernel_rfl) (by kernel_rfl) (fun _ _ _ h => h) (Or.inl ⟨by kernel_rfl, ?_⟩) (by assumption) ?_
  rotate_left
  · (intro w hSw; (try dsimp only at hSw); go_simp; try with_reducible rfl)
  try simp only [Act.put, List.setIfInBounds_toArray, List.set_cons_zero, List.set_cons_succ]
  refine take_at 5 (some 11) (v := ?_) rfl (by kernel_rfl) (by kernel_rfl) (by kernel_rfl) (by kernel_rfl) (fun _ _ _ h => h) (Or.inl ⟨by kernel_rfl, ?_⟩) (by assumption) ?_
  rotate_left
  · (intro w hSw; (try dsimp only at hSw); go_simp; try with_reducible rfl)
  try simp only [Act.put, List.setIfInBounds_toArray, List.set_cons_zero, List.set_cons_succ]
  refine take_at 6 (some 12) (v := ?_) rfl (by kernel_rfl) (by kernel_rfl) (by kernel_rfl) (by kernel_rfl) (fun _ _ _ h => h) (Or.inl ⟨by kernel_rfl, ?_⟩) (by assumption) ?_
  rotate_left
  · (intro w hSw; (try dsimp only at hSw); go_simp; try with_reducible rfl)
  try simp only [Act.put, List.setIfInBounds_toArray, List.set_cons_zero, List.set_cons_succ]
  refine wpAnyH_ready (rs := [7]) (by kernel_rfl) (by simp) ?_
  refine AllReadyH.cons rfl (fun K hK => ?_) AllReadyH.nil
  go_simp
  refine (Hless.out _).mono ?_; rintro e wx ⟨rfl, hb⟩; have HB := HB.trans ((by first | exact hb | exact below_undrew hb : Below _ _ _).mono HB.size)
  first | (refine hK.out _ _ (HS.out _ HB) (fun hHeld => ?_)) | (go_wp2_with fail; refine hK.out _ _ (HS.out _ HB) (fun hHeld => ?_))
  clear hK K
  try simp only [Act.put, List.setIfInBounds_toArray, List.set_cons_zero, List.set_cons_succ]
  refine take_at 8 (some 14) (v := ?_) rfl (by kernel_rfl) (by kernel_rfl) (by kernel_rfl) (by kernel_rfl) (fun _ _ _ h => h) (Or.inl ⟨by kernel_rfl, ?_⟩) (by assumption) ?_
  rotate_left
  · (intro w hSw; (try dsimp only at hSw); go_simp; try with_reducible rfl)
  try simp only [Act.put, List.setIfInBounds_toArray, List.set_cons_zero, List.set_cons_succ]
  refine take_at 9 (some 5) (v := ?_) rfl (by kernel_rfl) (by kernel_rfl) (by kernel_rfl) (by kernel_rfl) (fun _ _ _ h => h) (Or.inl ⟨by kernel_rfl, ?_⟩) (by assumption) ?_
  rotate_left
  · (intro w hSw; (try dsimp only at hSw); go_simp; try with_reducible rfl)
  try simp only [Act.put, List.setIfInBounds_toArray, List.set_cons_zero, List.set_cons_succ]
  refine wpAnyH_done (by kernel_rfl) ?_ _
  go_wp2_with fail
  go_ret
  exact ⟨rfl, HB⟩

end Go.Proofs.YtfkkcgdniepgoaaGreat

/- chapter 13: the midpoints, plainly: which entries they are, and what the first of them that is not ahead of an entry says of the entry's place. -/
namespace Go.Proofs.YtfkkcgdniepgoaaGreat
open Go.RowKit
set_option maxHeartbeats 1000000
set_option linter.unusedVariables false

theorem midsTo_sub (l : List En) : ∀ k, (midsTo l k).Sublist (l.take k)
  | 0 => by simp [midsTo]
  | k + 1 => by
    rw [midsTo]
    have ih := midsTo_sub l k
    cases hx : l[k]? with
    | none =>
      rw [List.take_add_one, hx]
      simpa using ih
    | some x =>
      rw [List.take_add_one, hx]
      dsimp only
      refine ih.append ?_
      split
      · exact List.Sublist.refl _
      · exact List.nil_sublist _
theorem mids_sorted {l : List En} (hs : SortedE l) : SortedE (midsE l) := by
  have h := midsTo_sub l l.length
  rw [List.take_length] at h
  exact List.Pairwise.sublist h hs
theorem midsTo_get (l : List En) : ∀ k, k < l.length → (midsTo l k).length = (k + 7) / 8 ∧ ∀ j, 8 * j < k → (midsTo l k)[j]? = l[8 * j]?
  | 0, _ => ⟨rfl, fun j hj => absurd hj (Nat.not_lt_zero _)⟩
  | k + 1, hk => by
    obtain ⟨ih1, ih2⟩ := midsTo_get l k (by omega)
    have hx : l[k]? = some l[k] := List.getElem?_eq_getElem (by omega)
    rw [midsTo, hx]
    dsimp only
    by_cases h8 : k % 8 = 0
    · rw [if_pos (.inl h8)]
      refine ⟨by rw [List.length_append, ih1]; simp only [List.length_cons, List.length_nil]; omega, fun j hj => ?_⟩
      by_cases hj2 : 8 * j < k
      · rw [List.getElem?_append_left (by rw [ih1]; omega)]; exact ih2 j hj2
      · have hkj : 8 * j = k := by omega
        rw [List.getElem?_append_right (by rw [ih1]; omega), ih1, hkj, hx, show j - (k + 7) / 8 = 0 from by omega]
        rfl
    · rw [if_neg (by omega), List.append_nil]
      refine ⟨by rw [ih1]; omega, fun j hj => ih2 j (by omega)⟩
theorem mids_get {l : List En} (hl : 0 < l.length) : (midsE l).length = (l.length + 6) / 8 + 1 ∧ (∀ j, j + 1 < (midsE l).length → (midsE l)[j]? = l[8 * j]?) ∧ (midsE l)[(midsE l).length - 1]? = l[l.length - 1]? := by
  obtain ⟨h1, h2⟩ := midsTo_get l (l.length - 1) (by omega)
  have hx : l[l.length - 1]? = some l[l.length - 1] := List.getElem?_eq_getElem (by omega)
  have he : midsE l = midsTo l (l.length - 1) ++ [l[l.length - 1]] := by
    unfold midsE
    rw [show midsTo l l.length = midsTo l (l.length - 1 + 1) from by rw [Nat.sub_add_cancel hl], midsTo, hx]
    dsimp only
    rw [if_pos (.inr (by omega))]
  have hn : (midsE l).length = (l.length + 6) / 8 + 1 := by rw [he, List.length_append, h1]; simp only [List.length_cons, List.length_nil]; omega
  refine ⟨hn, fun j hj => ?_, ?_⟩
  · rw [hn] at hj
    rw [he, List.getElem?_append_left (by rw [h1]; omega)]; exact h2 j (by omega)
  · rw [hn, he, List.getElem?_append_right (by rw [h1]; omega), h1, hx, show (l.length + 6) / 8 + 1 - 1 - (l.length - 1 + 7) / 8 = 0 from by omega]
    rfl
theorem mids_length_le (l : List En) : (midsE l).length * 8 ≤ l.length + 14 := by
  by_cases h0 : l = []
  · subst h0; exact Nat.zero_le _
  have := (mids_get (List.length_pos_iff.2 h0)).1
  omega
theorem mids_bounds {l : List En} (hs : SortedE l) (e : En) :
    (rankE (midsE l) e < (midsE l).length → (rankE (midsE l) e - 1) * 8 ≤ rankE l e) ∧
    (rankE (midsE l) e + 1 < (midsE l).length → rankE l e ≤ rankE (midsE l) e * 8 ∧ rankE (midsE l) e * 8 < l.length) ∧
    (rankE (midsE l) e = (midsE l).length → rankE l e = l.length) := by
  have hmS := mids_sorted hs
  have hr := rank_le l e
  have hrm := rank_le (midsE l) e
  have hlt : ∀ {i : Nat} {x : En}, l[i]? = some x → ltE x e = decide (i < rankE l e) := rank_lt hs e
  have hltm : ∀ {i : Nat} {x : En}, (midsE l)[i]? = some x → ltE x e = decide (i < rankE (midsE l) e) := rank_lt hmS e
  by_cases h0 : l = []
  · subst h0
    refine ⟨fun h => absurd h (Nat.not_lt_zero _), fun h => absurd h (Nat.not_lt_zero _), fun _ => rfl⟩
  have hl : 0 < l.length := List.length_pos_iff.2 h0
  obtain ⟨hn, hj, hz⟩ := mids_get hl
  generalize rankE (midsE l) e = r at *
  generalize rankE l e = q at *
  refine ⟨fun h => ?_, fun h => ?_, fun h => ?_⟩
  · by_cases hr0 : r = 0
    · omega
    have hx : l[8 * (r - 1)]? = some (l[8 * (r - 1)]'(by omega)) := List.getElem?_eq_getElem _
    have h1 := hj (r - 1) (by omega)
    have h2 := hltm (h1.trans hx)
    have h3 := hlt hx
    rw [h2] at h3
    have : r - 1 < r := by omega
    simp only [this, decide_true, true_eq_decide_iff] at h3
    omega
  · have hx : l[8 * r]? = some (l[8 * r]'(by omega)) := List.getElem?_eq_getElem _
    have h1 := hj r h
    have h2 := hltm (h1.trans hx)
    have h3 := hlt hx
    rw [h2] at h3
    have : ¬ r < r := by omega
    simp only [this, decide_false, false_eq_decide_iff] at h3
    omega
  · have hx : l[l.length - 1]? = some (l[l.length - 1]'(by omega)) := List.getElem?_eq_getElem _
    have h2 := hltm (hz.trans hx)
    have h3 := hlt hx
    rw [h2] at h3
    have : (midsE l).length - 1 < r := by omega
    simp only [this, decide_true, true_eq_decide_iff] at h3
    omega
end Go.Proofs.YtfkkcgdniepgoaaGreat

/- chapter 13: from's second search, whatever its bounds are. -/
namespace Go.Proofs.YtfkkcgdniepgoaaGreat
open Go.RowKit
set_option maxHeartbeats 4000000
set_option maxRecDepth 100000
set_option linter.unusedVariables false

theorem sortSearch_neg (v : Value) (D : Int) (w : World) (hD : D < 0) (hD2 : -1000000 < D) :
    Calls Tryz.prog 95 #[.int .i64 D, v] w fun x w' => x = .returned (.int .i64 ((0 : Nat) : Int)) ∧ Below w.heap.size w w' := by
  have hd : decide (0 < D) = false := decide_eq_false (by omega)
  go_enter Tryz.func95, Tryz.ntmps95
  go_wp2_with fail
  go_loopw [5, 6] (fun i j wr => i = .int .i64 0 ∧ j = .int .i64 D ∧ w = wr) (fun i j _ => (intOf j - intOf i).toNat)
  case atStart => exact ⟨rfl, rfl, rfl⟩
  case round =>
    obtain ⟨rfl, rfl, rfl⟩ := hrel
    go_wp2_with fail
    go_ret
    exact ⟨rfl, Below.refl _ _⟩

theorem fromTwo_search (M O E : Nat) (A : Option Addr) (n c B o R : Nat) (hi : Int) (l : List En) (e : En) (Y : World) (hM : BlkIs Y M 22 #[.slice A n c]) (hO : BlkIs Y O 3 #[.int .i64 (o : Int)]) (hE : BlkIs Y E 53 #[.int .i64 e.1, .int .i64 e.2.1, .int .i64 e.2.2]) (hr : SlR Y B 3 A n (enVs l)) (hB : B ≤ Y.heap.size) (hn : n ≤ 1000000) (hl : l.length = n) (ho : o ≤ n + 8)
    (hlt : ∀ (i : Nat) (x : En), l[i]? = some x → ltE x e = decide (i < R)) (hh : (o ≤ R ∧ (R : Int) ≤ hi ∧ hi ≤ n) ∨ (hi < o ∧ hi = n ∧ R = n)) :
    ∃ q : Nat, (o + q = R ∨ R = n ∧ n < o + q) ∧ o + q ≤ n + 8 ∧ ∀ wx, Below Y.heap.size Y wx → Calls Tryz.prog 95 #[.int .i64 (hi - (o : Int)), .func (.func 97) #[] #[.pointer (some ⟨M, 0, none⟩), .pointer (some ⟨O, 0, none⟩), .pointer (some ⟨E, 0, none⟩)]] wx fun x w' => x = .returned (.int .i64 (q : Int)) ∧ Below wx.heap.size wx w' := by
  rcases hh with ⟨h1, h2, h3⟩ | ⟨h1, h2, h3⟩
  · obtain ⟨N, hN⟩ : ∃ N : Nat, hi - (o : Int) = (N : Int) := ⟨(hi - o).toNat, by omega⟩
    refine ⟨R - o, .inl (by omega), by omega, fun wy hy => ?_⟩
    rw [hN]
    refine sortSearch_two _ _ _ N (R - o) wy (by omega) (by omega) (fun k hk wx hb => ?_)
    have hx : l[o + k]? = some (l[o + k]'(by omega)) := List.getElem?_eq_getElem _
    have hYx := hy.trans (hb.mono hy.size)
    refine (fromTwo_any M O E A n c B o k l _ e wx (hM.below hYx hM.lt) (hO.below hYx hO.lt) (hE.below hYx hE.lt) (hr.below (hYx.mono hB)) (Nat.le_trans hB hYx.size) hn (by omega) hx).mono ?_
    rintro z w' ⟨rfl, hb'⟩
    refine ⟨?_, hb'⟩
    rw [hlt _ _ hx]
    by_cases h : R - o ≤ k
    · rw [decide_eq_true h, decide_eq_false (by omega)]; rfl
    · rw [decide_eq_false h, decide_eq_true (by omega)]; rfl
  · exact ⟨0, .inr ⟨h3, by omega⟩, by omega, fun wx hb => sortSearch_neg _ _ wx (by omega) (by omega)⟩
end Go.Proofs.YtfkkcgdniepgoaaGreat

/- chapter 13: from's first closure. -/
namespace Go.Proofs.YtfkkcgdniepgoaaGreat
open Go.RowKit
set_option maxHeartbeats 4000000
set_option maxRecDepth 100000
set_option linter.unusedVariables false

/-- the first closure of from: is the midpoint at k not ahead of e? -/
theorem fromOne_any (M E : Nat) (A : Option Addr) (n c B k : Nat) (ms : List En) (x e : En) (w : World) (hM : BlkIs w M 22 #[.slice A n c]) (hE : BlkIs w E 53 #[.int .i64 e.1, .int .i64 e.2.1, .int .i64 e.2.2]) (hr : SlR w B 3 A n (enVs ms)) (hB : B ≤ w.heap.size) (hn : n ≤ 1000000) (hk : k < n) (hx : ms[k]? = some x) :
    Calls Tryz.prog 96 #[.int .i64 (k : Int), .pointer (some ⟨M, 0, none⟩), .pointer (some ⟨E, 0, none⟩)] w fun z w' => z = .returned (.bool (!ltE x e)) ∧ Below w.heap.size w w' := by
  obtain ⟨ad, x', rfl, had, hx', hat⟩ := hr.en hk
  rw [hx] at hx'
  injection hx' with hx'
  subst hx'
  obtain ⟨x0, x1, x2⟩ := x
  obtain ⟨e0, e1, e2⟩ := e
  obtain ⟨a0, a1, a2⟩ := id hat
  have m0 := hM.cell 0
  have b0 := hE.cell 0; have b1 := hE.cell 1; have b2 := hE.cell 2
  dsimp only at a0 a1 a2 b0 b1 b2
  simp at m0 b0 b1 b2
  have hless := fun w => less_any (x0, x1, x2) (e0, e1, e2) w
  unfold enA at hless
  dsimp only at hless
  have Hless := Lib.hid hless
  have hk1 : (k : Int) < (n : Int) := by omega
  have hk0 : 0 ≤ (k : Int) := by omega
  have hS : ∀ wx, Below w.heap.size w wx → wx.cell? ⟨M, 0, none⟩ = some (.slice (some ad) n c) ∧ wx.cell? (ad.add (k * 3)) = some (.int .i64 x0) ∧ wx.cell? ⟨(ad.add (k * 3)).block, (ad.add (k * 3)).off + 1, none⟩ = some (.int .i64 x1) ∧ wx.cell? ⟨(ad.add (k * 3)).block, (ad.add (k * 3)).off + 2, none⟩ = some (.int .i64 x2) ∧ wx.cell? ⟨E, 0, none⟩ = some (.int .i64 e0) ∧ wx.cell? ⟨E, 1, none⟩ = some (.int .i64 e1) ∧ wx.cell? ⟨E, 2, none⟩ = some (.int .i64 e2) := fun wx h => by
    have f1 := hat.below h (by rw [add_block]; exact Nat.lt_of_lt_of_le had hB)
    have f2 := (hE.below h hE.lt).cell; have f3 := (hM.below h hM.lt).cell
    exact ⟨f3 0, f1.1, f1.2.1, f1.2.2, f2 0, f2 1, f2 2⟩
  have HS := Lib.hid hS
  have HB := Below.refl w.heap.size w
  clear hless hat hx hr hM hE hS m0 a0 a1 a2 b0 b1 b2
  go_enter Tryz.func96, Tryz.ntmps96
  go_wp2_with fail
  refine wp_region_held_drew (S := (fun wx => wx.cell? ⟨M, 0, none⟩ = some (.slice (some ad) n c) ∧ wx.cell? (ad.add (k * 3)) = some (.int .i64 x0) ∧ wx.cell? ⟨(ad.add (k * 3)).block, (ad.add (k * 3)).off + 1, none⟩ = some (.int .i64 x1) ∧ wx.cell? ⟨(ad.add (k * 3)).block, (ad.add (k * 3)).off + 2, none⟩ = some (.int .i64 x2) ∧ wx.cell? ⟨E, 0, none⟩ = some (.int .i64 e0) ∧ wx.cell? ⟨E, 1, none⟩ = some (.int .i64 e1) ∧ wx.cell? ⟨E, 2, none⟩ = some (.int .i64 e2))) (by kernel_rfl) (HS.out _ (below_drewN HB 1)) (fun hHeld => ?_)
  refine take_at 0 (some 5) (v := ?_) rfl (by kernel_rfl) (by kernel_rfl) (by kernel_rfl) (by kernel_rfl) (fun _ _ _ h => h) (Or.inl ⟨by kernel_rfl, ?_⟩) (by assumption) ?_
  rotate_left
  · (intro w hSw; (try dsimp only at hSw); go_simp; try with_reducible rfl)
  try simp only [Act.put, List.setIfInBounds_toArray, List.set_cons_zero, List.set_cons_succ]
  refine take_at 1 (some 6) (v := ?_) rfl (by kernel_rfl) (by kernel_rfl) (by kernel_rfl) (by kernel_rfl) (fun _ _ _ h => h) (Or.inl ⟨by kernel_rfl, ?_⟩) (by assumption) ?_
  rotate_left
  · (intro w hSw; (try dsimp only at hSw); go_simp; try with_reducible rfl)
  try simp only [Act.put, List.setIfInBounds_toArray, List.set_cons_zero, List.set_cons_succ]
  refine take_at 2 (some 7) (v := ?_) rfl (by kernel_rfl) (by kernel_rfl) (by kernel_rfl) (by kernel_rfl) (fun _ _ _ h => h) (Or.inl ⟨by kernel_rfl, ?_⟩) (by assumption) ?_
  rotate_left
  · (intro w hSw; (try dsimp only at hSw); go_simp; try with_reducible rfl)
  try simp only [Act.put, List.setIfInBounds_toArray, List.set_cons_zero, List.set_cons_succ]
  refine take_at 3 (some 8) (v := ?_) rfl (by kernel_rfl) (by kernel_rfl) (by kernel_rfl) (by kernel_rfl) (fun _ _ _ h => h) (Or.inl ⟨by kernel_rfl, ?_⟩) (by assumption) ?_
  rotate_left
  · (intro w hSw; (try dsimp only at hSw); go_simp; try with_reducible rfl)
  try simp only [Act.put, List.setIfInBounds_toArray, List.set_cons_zero, List.set_cons_succ]
  refine take_at 4 (some 9) (v := ?_) rfl (by kernel_rfl) (by kernel_rfl) (by kernel_rfl) (by kernel_rfl) (fun _ _ _ h => h) (Or.inl ⟨by kernel_rfl, ?_⟩) (by assumption) ?_
  rotate_left
  · (intro w hSw; (try dsimp only at hSw); go_simp; try with_reducible rfl)
  try simp only [Act.put, List.setIfInBounds_toArray, List.set_cons_zero, List.set_cons_succ]
  refine wpAnyH_ready (rs := [5]) (by kernel_rfl) (by simp) ?_
  refine AllReadyH.cons rfl (fun K hK => ?_) AllReadyH.nil
  go_simp
  refine (Hless.out _).mono ?_; rintro e wx ⟨rfl, hb⟩; have HB := HB.trans ((by first | exact hb | exact below_undrew hb : Below _ _ _).mono HB.size)
  first | (refine hK.out _ _ (HS.out _ HB) (fun hHeld => ?_)) | (go_wp2_with fail; refine hK.out _ _ (HS.out _ HB) (fun hHeld => ?_))
  clear hK K
  try simp only [Act.put, List.setIfInBounds_toArray, List.set_cons_zero, List.set_cons_succ]
  refine take_at 6 (some 11) (v := ?_) rfl (by kernel_rfl) (by kernel_rfl) (by kernel_rfl) (by kernel_rfl) (fun _ _ _ h => h) (Or.inl ⟨by kernel_rfl, ?_⟩) (by assumption) ?_
  rotate_left
  · (intro w hSw; (try dsimp only at hSw); go_simp; try with_reducible rfl)
  try simp only [Act.put, List.setIfInBounds_toArray, List.set_cons_zero, List.set_cons_succ]
  refine take_at 7 (some 4) (v := ?_) rfl (by kernel_rfl) (by kernel_rfl) (by kernel_rfl) (by kernel_rfl) (fun _ _ _ h => h) (Or.inl ⟨by kernel_rfl, ?_⟩) (by assumption) ?_
  rotate_left
  · (intro w hSw; (try dsimp only at hSw); go_simp; try with_reducible rfl)
  try simp only [Act.put, List.setIfInBounds_toArray, List.set_cons_zero, List.set_cons_succ]
  refine wpAnyH_done (by kernel_rfl) ?_ _
  go_wp2_with fail
  go_ret
  exact ⟨rfl, HB⟩
end Go.Proofs.YtfkkcgdniepgoaaGreat

/- chapter 13: from, the place where a search among a table's entries begins. -/
namespace Go.Proofs.YtfkkcgdniepgoaaGreat
open Go.RowKit
set_option maxHeartbeats 4000000
set_option maxRecDepth 100000
set_option linter.unusedVariables false

theorem tblFrom_any (base T : Nat) (l : List En) (e : En) (w : World) (h : TblIs w base T l) (hn : l.length ≤ 1000000) (hs : SortedE l) :
    Calls Tryz.prog 48 #[.pointer (some ⟨T, 0, none⟩), enA e] w fun x w' => ∃ p : Nat, x = .returned (.int .i64 (p : Int)) ∧ (p = rankE l e ∨ rankE l e = l.length ∧ l.length < p) ∧ p ≤ l.length + 8 ∧ Below w.heap.size w w' := by
  obtain ⟨e0, e1, e2⟩ := e
  obtain ⟨W, hW⟩ : ∃ W, w.alloc (.cells #[.int .i64 e0, .int .i64 e1, .int .i64 e2] 53) = W := ⟨_, rfl⟩
  have hb0 : Below w.heap.size w W := by rw [← hW]; exact (Below.refl _ _).alloc (Nat.le_refl _) _
  have hmi := tblMids_any base T l W (h.below hb0 (Nat.le_refl _)) hn
  have HTt := Lib.hid h; have Hmi := Lib.hid hmi
  clear h hmi
  unfold enA
  dsimp only
  go_enter Tryz.func48, Tryz.ntmps48
  go_wp2_with fail
  (try rw [hW])
  refine Hmi.out.mono ?_
  rintro x w1 ⟨u, rfl, hown1, hb1⟩
  obtain ⟨A, c, rfl, hnc⟩ := own_slice hown1
  have Hr := Lib.hid (SlR.own hown1)
  have hms : midsE l = midsE l := rfl
  have hml : (midsE l).length ≤ l.length := midsTo_length l l.length
  have hmS := mids_sorted hs
  have hbW : Below w.heap.size w w1 := hb0.trans (hb1.mono hb0.size)
  have HE1 := Lib.hid ((show BlkIs W w.heap.size 53 #[.int .i64 e0, .int .i64 e1, .int .i64 e2] from by rw [← hW]; exact BlkIs.new _ _ _).below hb1 (show w.heap.size < W.heap.size from by rw [← hW]; simp))
  have hbd := mids_bounds hs (e0, e1, e2)
  have hml2 := mids_length_le l
  have hRl := rank_le l (e0, e1, e2)
  have hlt2 : ∀ (i : Nat) (x : En), l[i]? = some x → ltE x (e0, e1, e2) = decide (i < rankE l (e0, e1, e2)) := fun i x h => rank_lt hs (e0, e1, e2) h
  have Hlt2 := Lib.hid hlt2
  clear hlt2
  generalize hRe : rankE l (e0, e1, e2) = R at hbd hRl Hlt2
  have HRe := Lib.hid hRe
  clear hRe
  generalize midsE l = ms at Hr hml hmS hbd hml2
  have hrk := rank_le ms (e0, e1, e2)
  have hrl : ∀ (i : Nat) (x : En), ms[i]? = some x → ltE x (e0, e1, e2) = decide (i < rankE ms (e0, e1, e2)) := fun i x h => rank_lt hmS (e0, e1, e2) h
  generalize rankE ms (e0, e1, e2) = r1 at hrk hrl hbd
  obtain ⟨hbd1, hbd2, hbd3⟩ := hbd
  have Hrl := Lib.hid hrl
  have HbW := Lib.hid hbW
  clear hown1 hrl hbW hb0 hmS hms
  go_wp2_with fail
  obtain ⟨X, hX⟩ : ∃ X, w1.alloc (.cells #[.slice A ms.length c] 22) = X := ⟨_, rfl⟩
  have hXb : Below w1.heap.size w1 X := by rw [← hX]; exact (Below.refl _ _).alloc (Nat.le_refl _) _
  have hXM : BlkIs X w1.heap.size 22 #[.slice A ms.length c] := by rw [← hX]; exact BlkIs.new _ _ _
  have hXE := HE1.out.below hXb HE1.out.lt
  have hXr := Hr.out.below hXb
  rw [hX]
  refine (sortSearch_one _ _ ms.length r1 X hrk (by omega) (fun k hk wx hb => ?_)).mono ?_
  · have hx : ms[k]? = some ms[k] := List.getElem?_eq_getElem hk
    refine (fromOne_any w1.heap.size w.heap.size A ms.length c w1.heap.size k ms ms[k] (e0, e1, e2) wx (hXM.below hb hXM.lt) (hXE.below hb hXE.lt) (hXr.below (hb.mono hXb.size)) (Nat.le_trans hXb.size hb.size) (by omega) hk hx).mono ?_
    rintro z w' ⟨rfl, hb'⟩
    refine ⟨?_, hb'⟩
    rw [Hrl.out k _ hx]
    by_cases h : k < r1
    · rw [decide_eq_true h, decide_eq_false (by omega)]; rfl
    · rw [decide_eq_false h, decide_eq_true (by omega)]; rfl
  rintro x w2 ⟨rfl, hb2⟩
  have HT2 := Lib.hid (HTt.out.below ((HbW.out.trans (hXb.mono HbW.out.size)).trans (hb2.mono (Nat.le_trans HbW.out.size hXb.size))) (Nat.le_refl _))
  have HE2 := Lib.hid (hXE.below hb2 hXE.lt)
  have HM2 := Lib.hid (hXM.below hb2 hXM.lt)
  have HB2 := Lib.hid ((HbW.out.trans (hXb.mono HbW.out.size)).trans (hb2.mono (Nat.le_trans HbW.out.size hXb.size)))
  have hsz2 : w.heap.size ≤ w1.heap.size := HbW.out.size
  clear hb2 hXE hXM hXr hXb
  go_wp2_with fail
  refine (tblAll_any base T l _ HT2.out hn).mono ?_
  rintro x w3 ⟨u, rfl, hown3, hb3⟩
  obtain ⟨A2, c2, rfl, hnc2⟩ := own_slice hown3
  have hr2 := SlR.own hown3
  have hE3 := HE2.out.below hb3 HE2.out.lt
  have hM3 := HM2.out.below hb3 HM2.out.lt
  have hB3 := HB2.out.trans (hb3.mono HB2.out.size)
  have hsz3 := hb3.size
  have hm3 := hM3.lt
  have he3 := hE3.lt
  clear hown3 hb3 HT2 HE2 HM2
  obtain ⟨lo, hlo⟩ : ∃ lo, (r1 - 1) * 8 = lo := ⟨_, rfl⟩
  have hloI : max ((r1 : Int) - 1) 0 * 8 = (lo : Int) := by omega
  obtain ⟨Y, hY⟩ : ∃ Y, (w3.alloc (.cells #[.slice A2 l.length c2] 22)).alloc (.cells #[.int .i64 (lo : Int)] 3) = Y := ⟨_, rfl⟩
  have hYb : Below w3.heap.size w3 Y := by rw [← hY]; exact ((Below.refl _ _).alloc (Nat.le_refl _) _).alloc (by simp) _
  have hYM : BlkIs Y w3.heap.size 22 #[.slice A2 l.length c2] := by rw [← hY]; exact (BlkIs.new _ _ _).below ((Below.refl _ _).alloc (Nat.le_refl _) _) (by simp)
  have hYO : BlkIs Y (w3.heap.size + 1) 3 #[.int .i64 (lo : Int)] := by rw [← hY]; have := BlkIs.new (w3.alloc (.cells #[.slice A2 l.length c2] 22)) 3 #[.int .i64 (lo : Int)]; simpa using this
  have hYE := hE3.below hYb he3
  have hYm := hM3.below hYb hm3
  have hYr := hr2.below hYb
  have HBY := Lib.hid (hB3.trans (hYb.mono hB3.size))
  have hS : ∀ wx, Below Y.heap.size Y wx → wx.cell? ⟨w3.heap.size + 1, 0, none⟩ = some (.int .i64 (lo : Int)) := fun wx h => (hYO.below h hYO.lt).cell 0
  have HS := Lib.hid hS
  have hm0 : (w3.alloc (.cells #[.slice A2 l.length c2] 22)).alloc (.cells #[.int .i64 (lo : Int)] 3) = Y := hY
  have hcm := hYm.cell 0
  have hcl := hYM.cell 0
  have hco := hYO.cell 0
  simp at hcm hcl hco
  have hloR : ms.length ≤ r1 + 1 → lo ≤ l.length → lo ≤ R := fun h1 h2 => by
    by_cases h : r1 < ms.length
    · have := hbd1 h; omega
    · have := hbd3 (by omega); omega
  have hloR2 : ms.length ≤ r1 + 1 → l.length < lo → R = l.length := fun h1 h2 => by
    by_cases h : r1 < ms.length
    · have := hbd1 h; omega
    · exact hbd3 (by omega)
  by_cases hc : r1 + 1 < ms.length
  · obtain ⟨q, hq1, hq2, hS2⟩ := fromTwo_search w3.heap.size (w3.heap.size + 1) w.heap.size A2 l.length c2 w3.heap.size lo R (min ((r1 : Int) * 8 + 1) (l.length : Int)) l (e0, e1, e2) Y hYM hYO hYE hYr hYb.size hn rfl (by omega) Hlt2.out (.inl ⟨by have := hbd1 (by omega); omega, by have := hbd2 hc; omega, by omega⟩)
    have HS2 := Lib.hid hS2
    have hge : decide ((ms.length : Int) - 1 ≤ (r1 : Int)) = false := by rw [decide_eq_false_iff_not]; omega
    have hc' : ¬ ((ms.length : Int) - 1 ≤ (r1 : Int)) := by omega
    have HB := Below.refl Y.heap.size Y
    clear hS2 hS hYM hYO hYE hYr hYm hr2 hE3 hlo hloR hloR2 hbd1 hbd2 hbd3 hm0 hYb hB3
    go_wp2_with fail
    obtain ⟨hi, hhi⟩ : ∃ hi : Int, min ((r1 : Int) * 8 + 1) (l.length : Int) = hi := ⟨_, rfl⟩
    (try rw [hhi] at HS2)
    (try rw [hhi])
    have hhi2 : 0 ≤ hi ∧ hi ≤ (l.length : Int) := by omega
    have hwD : IntKind.i64.wrap (hi - (lo : Int)) = hi - (lo : Int) := IntWalk.i64_in _ (by omega)
    have hwq : IntKind.i64.wrap ((lo : Int) + (q : Int)) = (lo : Int) + (q : Int) := IntWalk.i64_in _ (by omega)
    clear hge hc' hcm hcl hhi
    refine wp_region_held_drew (S := (fun wx => wx.cell? ⟨w3.heap.size + 1, 0, none⟩ = some (.int .i64 (lo : Int)))) (by kernel_rfl) (HS.out _ (below_drewN HB 1)) (fun hHeld => ?_)
    refine take_at 0 (some 35) (v := ?_) rfl (by kernel_rfl) (by kernel_rfl) (by kernel_rfl) (by kernel_rfl) (fun _ _ _ h => h) (Or.inl ⟨by kernel_rfl, ?_⟩) (by assumption) ?_
    rotate_left
    · (intro w hSw; (try dsimp only at hSw); go_simp; try with_reducible rfl)
    try simp only [Act.put, List.setIfInBounds_toArray, List.set_cons_zero, List.set_cons_succ]
    refine take_at 1 (some 36) (v := ?_) rfl (by kernel_rfl) (by kernel_rfl) (by kernel_rfl) (by kernel_rfl) (fun _ _ _ h => h) (Or.inl ⟨by kernel_rfl, ?_⟩) (by assumption) ?_
    rotate_left
    · (intro w hSw; (try dsimp only at hSw); go_simp; try with_reducible rfl)
    try simp only [Act.put, List.setIfInBounds_toArray, List.set_cons_zero, List.set_cons_succ]
    refine take_at 2 (some 37) (v := ?_) rfl (by kernel_rfl) (by kernel_rfl) (by kernel_rfl) (by kernel_rfl) (fun _ _ _ h => h) (Or.inl ⟨by kernel_rfl, ?_⟩) (by assumption) ?_
    rotate_left
    · (intro w hSw; (try dsimp only at hSw); go_simp; try with_reducible rfl)
    try simp only [Act.put, List.setIfInBounds_toArray, List.set_cons_zero, List.set_cons_succ]
    refine take_at 3 (some 38) (v := ?_) rfl (by kernel_rfl) (by kernel_rfl) (by kernel_rfl) (by kernel_rfl) (fun _ _ _ h => h) (Or.inl ⟨by kernel_rfl, ?_⟩) (by assumption) ?_
    rotate_left
    · (intro w hSw; (try dsimp only at hSw); go_simp; try with_reducible rfl)
    try simp only [Act.put, List.setIfInBounds_toArray, List.set_cons_zero, List.set_cons_succ]
    refine take_at 4 (some 39) (v := ?_) rfl (by kernel_rfl) (by kernel_rfl) (by kernel_rfl) (by kernel_rfl) (fun _ _ _ h => h) (Or.inl ⟨by kernel_rfl, ?_⟩) (by assumption) ?_
    rotate_left
    · (intro w hSw; (try dsimp only at hSw); go_simp; try with_reducible rfl)
    try simp only [Act.put, List.setIfInBounds_toArray, List.set_cons_zero, List.set_cons_succ]
    refine wpAnyH_ready (rs := [5]) (by kernel_rfl) (by simp) ?_
    refine AllReadyH.cons rfl (fun K hK => ?_) AllReadyH.nil
    go_simp
    refine (HS2.out _ (below_drewN HB 1)).mono ?_; rintro e wx ⟨rfl, hb⟩; have HB := HB.trans ((by first | exact hb | exact below_undrew hb : Below _ _ _).mono HB.size)
    first | (refine hK.out _ _ (HS.out _ HB) (fun hHeld => ?_)) | (go_wp2_with fail; refine hK.out _ _ (HS.out _ HB) (fun hHeld => ?_))
    clear hK K
    try simp only [Act.put, List.setIfInBounds_toArray, List.set_cons_zero, List.set_cons_succ]
    refine take_at 6 (some 41) (v := ?_) rfl (by kernel_rfl) (by kernel_rfl) (by kernel_rfl) (by kernel_rfl) (fun _ _ _ h => h) (Or.inl ⟨by kernel_rfl, ?_⟩) (by assumption) ?_
    rotate_left
    · (intro w hSw; (try dsimp only at hSw); go_simp; try with_reducible rfl)
    try simp only [Act.put, List.setIfInBounds_toArray, List.set_cons_zero, List.set_cons_succ]
    refine take_at 7 (some 4) (v := ?_) rfl (by kernel_rfl) (by kernel_rfl) (by kernel_rfl) (by kernel_rfl) (fun _ _ _ h => h) (Or.inl ⟨by kernel_rfl, ?_⟩) (by assumption) ?_
    rotate_left
    · (intro w hSw; (try dsimp only at hSw); go_simp; try with_reducible rfl)
    try simp only [Act.put, List.setIfInBounds_toArray, List.set_cons_zero, List.set_cons_succ]
    refine wpAnyH_done (by kernel_rfl) ?_ _
    go_wp2_with fail
    go_ret
    exact ⟨lo + q, by go_num, by rw [HRe.out]; exact hq1, hq2, HBY.out.trans (HB.mono HBY.out.size)⟩
  · obtain ⟨q, hq1, hq2, hS2⟩ := fromTwo_search w3.heap.size (w3.heap.size + 1) w.heap.size A2 l.length c2 w3.heap.size lo R (l.length : Int) l (e0, e1, e2) Y hYM hYO hYE hYr hYb.size hn rfl (by omega) Hlt2.out ((Nat.lt_or_ge l.length lo).elim (fun h => .inr ⟨by omega, rfl, hloR2 (by omega) h⟩) (fun h => .inl ⟨hloR (by omega) h, by omega, by omega⟩))
    have HS2 := Lib.hid hS2
    have hge : decide ((ms.length : Int) - 1 ≤ (r1 : Int)) = true := by rw [decide_eq_true_iff]; omega
    have hc' : (ms.length : Int) - 1 ≤ (r1 : Int) := by omega
    have HB := Below.refl Y.heap.size Y
    clear hS2 hS hYM hYO hYE hYr hYm hr2 hE3 hlo hloR hloR2 hbd1 hbd2 hbd3 hm0 hYb hB3
    go_wp2_with fail
    have hwD : IntKind.i64.wrap ((l.length : Int) - (lo : Int)) = (l.length : Int) - (lo : Int) := IntWalk.i64_in _ (by omega)
    have hwq : IntKind.i64.wrap ((lo : Int) + (q : Int)) = (lo : Int) + (q : Int) := IntWalk.i64_in _ (by omega)
    clear hge hc' hcm hcl
    refine wp_region_held_drew (S := (fun wx => wx.cell? ⟨w3.heap.size + 1, 0, none⟩ = some (.int .i64 (lo : Int)))) (by kernel_rfl) (HS.out _ (below_drewN HB 1)) (fun hHeld => ?_)
    refine take_at 0 (some 35) (v := ?_) rfl (by kernel_rfl) (by kernel_rfl) (by kernel_rfl) (by kernel_rfl) (fun _ _ _ h => h) (Or.inl ⟨by kernel_rfl, ?_⟩) (by assumption) ?_
    rotate_left
    · (intro w hSw; (try dsimp only at hSw); go_simp; try with_reducible rfl)
    try simp only [Act.put, List.setIfInBounds_toArray, List.set_cons_zero, List.set_cons_succ]
    refine take_at 1 (some 36) (v := ?_) rfl (by kernel_rfl) (by kernel_rfl) (by kernel_rfl) (by kernel_rfl) (fun _ _ _ h => h) (Or.inl ⟨by kernel_rfl, ?_⟩) (by assumption) ?_
    rotate_left
    · (intro w hSw; (try dsimp only at hSw); go_simp; try with_reducible rfl)
    try simp only [Act.put, List.setIfInBounds_toArray, List.set_cons_zero, List.set_cons_succ]
    refine take_at 2 (some 37) (v := ?_) rfl (by kernel_rfl) (by kernel_rfl) (by kernel_rfl) (by kernel_rfl) (fun _ _ _ h => h) (Or.inl ⟨by kernel_rfl, ?_⟩) (by assumption) ?_
    rotate_left
    · (intro w hSw; (try dsimp only at hSw); go_simp; try with_reducible rfl)
    try simp only [Act.put, List.setIfInBounds_toArray, List.set_cons_zero, List.set_cons_succ]
    refine take_at 3 (some 38) (v := ?_) rfl (by kernel_rfl) (by kernel_rfl) (by kernel_rfl) (by kernel_rfl) (fun _ _ _ h => h) (Or.inl ⟨by kernel_rfl, ?_⟩) (by assumption) ?_
    rotate_left
    · (intro w hSw; (try dsimp only at hSw); go_simp; try with_reducible rfl)
    try simp only [Act.put, List.setIfInBounds_toArray, List.set_cons_zero, List.set_cons_succ]
    refine take_at 4 (some 39) (v := ?_) rfl (by kernel_rfl) (by kernel_rfl) (by kernel_rfl) (by kernel_rfl) (fun _ _ _ h => h) (Or.inl ⟨by kernel_rfl, ?_⟩) (by assumption) ?_
    rotate_left
    · (intro w hSw; (try dsimp only at hSw); go_simp; try with_reducible rfl)
    try simp only [Act.put, List.setIfInBounds_toArray, List.set_cons_zero, List.set_cons_succ]
    refine wpAnyH_ready (rs := [5]) (by kernel_rfl) (by simp) ?_
    refine AllReadyH.cons rfl (fun K hK => ?_) AllReadyH.nil
    go_simp
    refine (HS2.out _ (below_drewN HB 1)).mono ?_; rintro e wx ⟨rfl, hb⟩; have HB := HB.trans ((by first | exact hb | exact below_undrew hb : Below _ _ _).mono HB.size)
    first | (refine hK.out _ _ (HS.out _ HB) (fun hHeld => ?_)) | (go_wp2_with fail; refine hK.out _ _ (HS.out _ HB) (fun hHeld => ?_))
    clear hK K
    try simp only [Act.put, List.setIfInBounds_toArray, List.set_cons_zero, List.set_cons_succ]
    refine take_at 6 (some 41) (v := ?_) rfl (by kernel_rfl) (by kernel_rfl) (by kernel_rfl) (by kernel_rfl) (fun _ _ _ h => h) (Or.inl ⟨by kernel_rfl, ?_⟩) (by assumption) ?_
    rotate_left
    · (intro w hSw; (try dsimp only at hSw); go_simp; try with_reducible rfl)
    try simp only [Act.put, List.setIfInBounds_toArray, List.set_cons_zero, List.set_cons_succ]
    refine take_at 7 (some 4) (v := ?_) rfl (by kernel_rfl) (by kernel_rfl) (by kernel_rfl) (by kernel_rfl) (fun _ _ _ h => h) (Or.inl ⟨by kernel_rfl, ?_⟩) (by assumption) ?_
    rotate_left
    · (intro w hSw; (try dsimp only at hSw); go_simp; try with_reducible rfl)
    try simp only [Act.put, List.setIfInBounds_toArray, List.set_cons_zero, List.set_cons_succ]
    refine wpAnyH_done (by kernel_rfl) ?_ _
    go_wp2_with fail
    go_ret
    exact ⟨lo + q, by go_num, by rw [HRe.out]; exact hq1, hq2, HBY.out.trans (HB.mono HBY.out.size)⟩
end Go.Proofs.YtfkkcgdniepgoaaGreat

/- chapter 13: what stands ahead of a place, at it and behind it, plainly. -/
namespace Go.Proofs.YtfkkcgdniepgoaaGreat
open Go.RowKit
set_option maxHeartbeats 1000000
set_option linter.unusedVariables false

/-- the place where a search begins -/
def PlaceE (l : List En) (e : En) (p : Nat) : Prop := p = rankE l e ∨ rankE l e = l.length ∧ l.length < p
theorem PlaceE.le {l : List En} {e : En} {p : Nat} (h : PlaceE l e p) : rankE l e ≤ p := by rcases h with h | ⟨h, h2⟩ <;> omega
theorem PlaceE.take {l : List En} {e : En} {p : Nat} (h : PlaceE l e p) : l.take p = l.take (rankE l e) := by
  rcases h with h | ⟨h, h2⟩
  · rw [h]
  · rw [h, List.take_length, List.take_of_length_le (Nat.le_of_lt h2)]
theorem ahead_mem {l : List En} (hs : SortedE l) {e : En} {p : Nat} (h : PlaceE l e p) {x : En} (hx : x ∈ l.take p) : ltE x e = true := by
  rw [h.take] at hx
  exact rank_pre hs e x hx
theorem at_place {l : List En} (hs : SortedE l) {e : En} {p k : Nat} (h : PlaceE l e p) (hk : p ≤ k) {x : En} (hx : l[k]? = some x) : ltE x e = false := by
  rw [rank_lt hs e hx, decide_eq_false_iff_not]
  have := h.le
  omega
theorem behind_mem {l : List En} (hs : SortedE l) {k : Nat} {x y : En} (hx : l[k]? = some x) (hy : y ∈ l.drop k) : y = x ∨ ltE x y = true := by
  obtain ⟨i, hi⟩ := List.getElem?_of_mem hy
  rw [List.getElem?_drop] at hi
  cases i with
  | zero => rw [Nat.add_zero, hx] at hi; injection hi with hi; exact .inl hi.symm
  | succ i =>
    obtain ⟨h1, h2⟩ := List.getElem?_eq_some_iff.1 hx
    obtain ⟨h3, h4⟩ := List.getElem?_eq_some_iff.1 hi
    have := List.pairwise_iff_getElem.1 hs k (k + (i + 1)) h1 h3 (by omega)
    rw [h2, h4] at this
    exact .inr this
theorem find_at {l : List En} (hs : SortedE l) (ho : ∀ x ∈ l, 0 ≤ x.2.2) (h v : Int) {p : Nat} (hp : PlaceE l (h, v, 0) p) : findE (l.take p) h v = [] := by
  unfold findE
  rw [List.map_eq_nil_iff, List.filter_eq_nil_iff]
  intro x hx hc
  have h1 := ahead_mem hs hp hx
  have h2 := ho x (List.mem_of_mem_take hx)
  unfold ltE at h1
  simp only [decide_eq_true_eq] at h1 hc
  omega
theorem find_end {l : List En} (hs : SortedE l) (h v : Int) {p k : Nat} (hp : PlaceE l (h, v, 0) p) (hk : p ≤ k) {x : En} (hx : l[k]? = some x) (hn : ¬ (x.1 = h ∧ x.2.1 = v)) : findE (l.take k) h v = findE l h v := by
  have h1 := at_place hs hp hk hx
  have h2 : (l.drop k).filter (fun e => decide (e.1 = h ∧ e.2.1 = v)) = [] := by
    rw [List.filter_eq_nil_iff]
    intro y hy hc
    have h3 := behind_mem hs hx hy
    unfold ltE at h1 h3
    simp only [decide_eq_true_eq, decide_eq_false_iff_not] at h1 h3 hc
    rcases h3 with rfl | h3
    · exact hn hc
    · omega
  conv => rhs; rw [← List.take_append_drop k l]
  unfold findE
  rw [List.filter_append]
  rw [show ((l.drop k).filter _) = [] from h2, List.append_nil]
theorem range_at {l : List En} (hs : SortedE l) (ho : ∀ x ∈ l, 0 ≤ x.2.2) (h a b : Int) {p : Nat} (hp : PlaceE l (h, a, 0) p) : rangeE (l.take p) h a b = [] := by
  unfold rangeE
  rw [List.filter_eq_nil_iff]
  intro x hx hc
  have h1 := ahead_mem hs hp hx
  have h2 := ho x (List.mem_of_mem_take hx)
  unfold ltE at h1
  simp only [decide_eq_true_eq] at h1 hc
  omega
theorem range_in {l : List En} (hs : SortedE l) (h a : Int) {p k : Nat} (hp : PlaceE l (h, a, 0) p) (hk : p ≤ k) {x : En} (hx : l[k]? = some x) (hh : x.1 = h) : a ≤ x.2.1 := by
  have h1 := at_place hs hp hk hx
  unfold ltE at h1
  simp only [decide_eq_false_iff_not] at h1
  omega
theorem range_end {l : List En} (hs : SortedE l) (h a b : Int) {p k : Nat} (hp : PlaceE l (h, a, 0) p) (hk : p ≤ k) {x : En} (hx : l[k]? = some x) (hn : ¬ (x.1 = h ∧ x.2.1 < b)) : rangeE (l.take k) h a b = rangeE l h a b := by
  have h1 := at_place hs hp hk hx
  have h2 : (l.drop k).filter (fun e => decide (e.1 = h ∧ a ≤ e.2.1 ∧ e.2.1 < b)) = [] := by
    rw [List.filter_eq_nil_iff]
    intro y hy hc
    have h3 := behind_mem hs hx hy
    unfold ltE at h1 h3
    simp only [decide_eq_true_eq, decide_eq_false_iff_not] at h1 h3 hc
    rcases h3 with rfl | h3
    · exact hn ⟨hc.1, hc.2.2⟩
    · omega
  conv => rhs; rw [← List.take_append_drop k l]
  unfold rangeE
  rw [List.filter_append]
  rw [show ((l.drop k).filter _) = [] from h2, List.append_nil]
end Go.Proofs.YtfkkcgdniepgoaaGreat

/- chapter 13: Find: the places of a version in a table. -/
namespace Go.Proofs.YtfkkcgdniepgoaaGreat
open Go.RowKit
set_option maxHeartbeats 4000000
set_option maxRecDepth 100000
set_option linter.unusedVariables false

theorem own_lower {w : World} {base base' : Nat} {e : TypeId} {size : Nat} {v : Value} {n : Nat} {xs : List Value} (h : w.ownsRow base e size v n xs) (hb : base' ≤ base) : w.ownsRow base' e size v n xs :=
  ⟨h.1, h.2.imp id fun ⟨g, cap, cur, a, b, c⟩ => ⟨g, cap, cur, a, Nat.le_trans hb b, c⟩⟩

theorem tblFind_any (base T : Nat) (l : List En) (h v : Int) (w : World) (hT : TblIs w base T l) (hn : l.length ≤ 1000000) (hs : SortedE l) (ho : ∀ x ∈ l, 0 ≤ x.2.2) :
    Calls Tryz.prog 15 #[.pointer (some ⟨T, 0, none⟩), .int .i64 h, .int .i64 v] w fun x w' => ∃ u, x = .returned u ∧ w'.ownsRow w.heap.size 3 1 u (findE l h v).length (intVs (findE l h v)) ∧ Below w.heap.size w w' := by
  obtain ⟨i0, hi0, hz0, hz1, hz2⟩ := info_parts info_int
  have HTt := Lib.hid hT
  have hal := tblAll_any base T l w hT hn
  have Hal := Lib.hid hal
  clear hT hal
  go_enter Tryz.func15, Tryz.ntmps15
  go_wp2_with fail
  refine Hal.out.mono ?_
  rintro x w1 ⟨u1, rfl, hown1, hb1⟩
  obtain ⟨A, c, rfl, hnc⟩ := own_slice hown1
  have Hr := Lib.hid (SlR.own hown1)
  have hfr := tblFrom_any base T l (h, v, 0) w1 (HTt.out.below hb1 (Nat.le_refl _)) hn hs
  unfold enA at hfr
  dsimp only at hfr
  have Hfr := Lib.hid hfr
  have HB1 := Lib.hid hb1
  clear hown1 hfr hb1
  go_wp2_with fail
  refine Hfr.out.mono ?_
  rintro x w2 ⟨p, rfl, hp, hpl, hb2⟩
  have Hp := Lib.hid (show PlaceE l (h, v, 0) p from hp)
  have HB2 := Lib.hid (HB1.out.trans (hb2.mono HB1.out.size))
  have Hr2 := Lib.hid (Hr.out.below hb2)
  have hs2 := hb2.size
  have hs1 := HB1.out.size
  clear hp hb2 HTt Hfr Hal Hr
  go_wp2_with fail
  go_loopw [7, 9] (fun o i wr => ∃ (k : Nat) (u : Value), u = o ∧ p ≤ k ∧ k ≤ l.length + 8 ∧ i = .int .i64 (k : Int) ∧ wr.ownsRow w2.heap.size 3 1 u (findE (l.take k) h v).length (intVs (findE (l.take k) h v)) ∧ Below w2.heap.size w2 wr) (fun _ i _ => l.length - (intOf i).toNat)
  case atStart =>
    have h0 := find_at hs ho h v Hp.out
    exact ⟨p, _, rfl, Nat.le_refl _, hpl, rfl, by rw [h0]; exact World.ownsRow_nil _ _ _ _, Below.refl _ _⟩
  case round =>
    obtain ⟨k, u, rfl, hk, hk2, rfl, hown, hb⟩ := hrel
    have hfl : (findE (l.take k) h v).length ≤ l.length := Nat.le_trans (find_le _ _ _) (by rw [List.length_take]; omega)
    by_cases hlt : k < l.length
    · obtain ⟨ad, ⟨p0, p1, p2⟩, rfl, hadB, hpq, hat⟩ := Hr2.out.en (k := k) (by omega)
      have hat1 := hat.below hb (by rw [add_block]; omega)
      obtain ⟨hc0, hc1, hc2⟩ := hat1
      dsimp only at hc0 hc1 hc2
      have hsn := find_snoc l h v k _ hpq
      dsimp only at hsn
      have hend := find_end hs h v Hp.out hk hpq
      dsimp only at hend
      have Hend := Lib.hid hend
      have Hsn := Lib.hid hsn; have Hown := Lib.hid hown; have Hb := Lib.hid hb
      have hbs := hb.size
      generalize findE (l.take k) h v = F at hfl Hown Hsn Hend
      have hlt' : (k : Int) < l.length := by omega
      clear hsn hown hb hat hpq hend
      by_cases h0 : p0 = h
      · by_cases h1 : p1 = v
        · have Hsn := Lib.hid (Hsn.out.trans (by rw [if_pos ⟨h0, h1⟩]))
          subst h0; subst h1
          go_wp2_with (at_builtin; refine wpList_append_lies _ rfl (.tmp 41) (.tmp 47) _ rfl w2.heap.size 3 i0 _ 1 8 Tryz.underlying48 hi0 hz0 hz1 hz2 rfl (by omega) u F.length (intVs F) rfl (Hown.out.alloc _) ⟨wr.heap.size, 0, none⟩ 1 1 [.int .i64 p2] rfl rfl (World.news_of_block (cs := #[.int .i64 p2]) (by have := heap_alloc_new wr (.cells #[.int .i64 p2] 3); simpa using this)) (by simp [Value.oneCell']) (by omega) (by simp only [maxLen]; omega) (by omega) (by simp <;> omega) (wr.heap.size + 1) (by simp) ?_; intro g cp w3 hown3 hgrow hat3 hlt3)
          have hb3 : Below w2.heap.size w2 w3 := (Hb.out.alloc hbs _).grown hgrow (by simp; omega) (fun q hq => (Hown.out.lt q hq).1)
          go_roundw
          case rel =>
            refine ⟨k + 1, _, rfl, by omega, by omega, by go_num, ?_, hb3⟩
            rw [Hsn.out]
            simpa [intVs] using hown3
          case measure => simp [intOf]; omega
        · have hF := Hend.out (fun q => h1 q.2)
          rw [hF] at Hown
          subst h0
          have h1' : (p1 == v) = false := by simpa using h1
          clear hF Hend Hsn
          go_wp2_with fail
          go_ret
          exact ⟨u, rfl, own_lower Hown.out (by omega), HB2.out.trans (Hb.out.mono (by omega))⟩
      · have hF := Hend.out (fun q => h0 q.1)
        rw [hF] at Hown
        have h0' : (p0 == h) = false := by simpa using h0
        clear hF Hend Hsn
        go_wp2_with fail
        go_ret
        exact ⟨u, rfl, own_lower Hown.out (by omega), HB2.out.trans (Hb.out.mono (by omega))⟩
    · have hd : decide ((k : Int) < (l.length : Int)) = false := by rw [decide_eq_false_iff_not]; omega
      have ht : l.take k = l := List.take_of_length_le (by omega)
      rw [ht] at hown
      clear ht hfl
      have Hown := Lib.hid hown
      clear hown
      go_wp2_with fail
      go_ret
      exact ⟨u, rfl, own_lower Hown.out (by omega), HB2.out.trans (hb.mono (by omega))⟩
end Go.Proofs.YtfkkcgdniepgoaaGreat

/- chapter 13: alive. -/
namespace Go.Proofs.YtfkkcgdniepgoaaGreat
open Go.RowKit
set_option maxHeartbeats 4000000
set_option maxRecDepth 100000
set_option linter.unusedVariables false

def nineE (k : Nat) : List En := (List.range k).map fun (i : Nat) => (((1 : Int), ((i : Nat) : Int), ((i : Nat) : Int)) : En)
theorem nineE_len (k : Nat) : (nineE k).length = k := by simp [nineE]
theorem nineE_succ (k : Nat) : nineE (k + 1) = nineE k ++ [((1 : Int), ((k : Nat) : Int), ((k : Nat) : Int))] := by simp [nineE, List.range_succ]

theorem alive13_any (w : World) :
    Calls Tryz.prog 5 #[] w fun x w' => x = .returned (.bool true) ∧ Below w.heap.size w w' := by
  obtain ⟨i0, hi0, hz0, hz1, hz2⟩ := info_parts info_en
  have hmay : mayT (nineE 9) = true := by decide
  have hmid : (midsE (nineE 9)).length = 2 := by decide
  have hfin : (findE (nineE 9) 1 4).length = 1 := by decide
  have hsort : SortedE (nineE 9) := by decide
  have hpos : ∀ x ∈ nineE 9, 0 ≤ x.2.2 := by decide
  have hlen : (nineE 9).length = 9 := nineE_len 9
  have hbu := buildT_yes hmay
  have hop := openT_build (nineE 9) hmay (by rw [hlen]; omega)
  have hsl := sealT_length (nineE 9)
  rw [hlen] at hsl
  have H9 := Lib.hid (And.intro hmid (And.intro hfin (And.intro hsort (And.intro hpos (And.intro hlen (And.intro hbu (And.intro hop hsl)))))))
  clear hmay hmid hfin hsort hpos hlen hbu hop hsl
  go_enter Tryz.func5, Tryz.ntmps5
  go_wp2_with fail
  go_loopw [1, 2] (fun o i wr => ∃ (k : Nat) (u : Value), u = o ∧ k ≤ 9 ∧ i = .int .i64 (k : Int) ∧ wr.ownsRow w.heap.size 53 3 u k (enVs (nineE k)) ∧ Below w.heap.size w wr) (fun _ i _ => 9 - (intOf i).toNat)
  case atStart => exact ⟨0, _, rfl, Nat.zero_le _, rfl, World.ownsRow_nil _ _ _ _, Below.refl _ _⟩
  case round =>
    obtain ⟨k, u, rfl, hk, rfl, hown, hb⟩ := hrel
    by_cases hlt : k < 9
    · have hlt' : (k : Int) < 9 := by omega
      have Hsn := Lib.hid (nineE_succ k)
      have Hown := Lib.hid hown; have Hb := Lib.hid hb
      have hbs := hb.size
      generalize nineE k = F at Hown Hsn
      clear hown hb
      go_wp2_with (at_builtin; refine wpList_append_lies _ rfl (.tmp 11) (.tmp 15) _ rfl w.heap.size 53 i0 _ 3 24 Tryz.underlying22 hi0 hz0 hz1 hz2 rfl (by omega) u k (enVs F) rfl (Hown.out.alloc _) ⟨wr.heap.size, 0, none⟩ 1 1 [.int .i64 1, .int .i64 (k : Int), .int .i64 (k : Int)] rfl rfl (World.news_of_block (cs := #[.int .i64 1, .int .i64 (k : Int), .int .i64 (k : Int)]) (by have := heap_alloc_new wr (.cells #[.int .i64 1, .int .i64 (k : Int), .int .i64 (k : Int)] 53); simpa using this)) (by simp [Value.oneCell']) (by omega) (by simp only [maxLen]; omega) (by omega) (by simp <;> omega) (wr.heap.size + 1) (by simp) ?_; intro g cp w3 hown3 hgrow hat3 hlt3)
      have hb3 : Below w.heap.size w w3 := (Hb.out.alloc hbs _).grown hgrow (by simp; omega) (fun q hq => (Hown.out.lt q hq).1)
      go_roundw
      case rel =>
        refine ⟨k + 1, _, rfl, by omega, by go_num, ?_, hb3⟩
        rw [Hsn.out, enVs_append]
        exact hown3
      case measure => simp [intOf]; omega
    · obtain rfl : k = 9 := by omega
      obtain ⟨A, c, rfl, hnc⟩ := own_slice hown
      have hbuild := build_any A 9 c wr.heap.size (nineE 9) wr (SlR.own hown) (Nat.le_refl _) (by omega)
      rw [H9.out.2.2.2.2.2.1] at hbuild
      have Hbuild := Lib.hid hbuild
      have Hb := Lib.hid hb
      clear hown hb hbuild
      go_wp2_with fail
      refine Hbuild.out.mono ?_
      rintro x w1 ⟨rfl, hb1⟩
      have hopen := tblOpen_any ⟨(sealT (nineE 9)).toArray⟩ w1 (by have := H9.out.2.2.2.2.2.2.2; rw [size_mk]; omega)
      rw [show openT (ByteArray.mk (sealT (nineE 9)).toArray).data.toList = (nineE 9, 0) from H9.out.2.2.2.2.2.2.1] at hopen
      have Hopen := Lib.hid hopen
      have Hb1 := Lib.hid (Hb.out.trans (hb1.mono Hb.out.size))
      clear hopen hb1 Hbuild
      go_wp2_with fail
      refine Hopen.out.mono ?_
      rintro x w2 ⟨p, rfl, _, h1, hb2⟩
      obtain ⟨g, rfl, hT⟩ := h1 trivial
      have HT := Lib.hid hT
      have Hb2 := Lib.hid (Hb1.out.trans (hb2.mono Hb1.out.size))
      have hlen := H9.out.2.2.2.2.1
      have hlc := tblLen_any w1.heap.size g (nineE 9) w2 hT (by rw [hlen]; omega)
      rw [hlen] at hlc
      have Hlc := Lib.hid hlc
      have hmi := tblMids_any w1.heap.size g (nineE 9) w2 hT (by rw [hlen]; omega)
      rw [H9.out.1] at hmi
      have Hmi := Lib.hid hmi
      clear hT h1 hb2 hlen hlc hmi
      go_wp2_with fail
      refine Hlc.out.mono ?_
      rintro x w3 ⟨rfl, rfl⟩
      go_wp2_with fail
      refine Hmi.out.mono ?_
      rintro x w3 ⟨u3, rfl, hown3, hb3⟩
      obtain ⟨A3, c3, rfl, hnc3⟩ := own_slice hown3
      have hfi := tblFind_any w1.heap.size g (nineE 9) 1 4 w3 (HT.out.below hb3 (Nat.le_refl _)) (by rw [H9.out.2.2.2.2.1]; omega) H9.out.2.2.1 H9.out.2.2.2.1
      rw [H9.out.2.1] at hfi
      have Hfi := Lib.hid hfi
      have Hb3 := Lib.hid (Hb2.out.trans (hb3.mono Hb2.out.size))
      clear hown3 hb3 hfi
      go_wp2_with fail
      refine Hfi.out.mono ?_
      rintro x w4 ⟨u4, rfl, hown4, hb4⟩
      obtain ⟨A4, c4, rfl, hnc4⟩ := own_slice hown4
      have Hb4 := Lib.hid (Hb3.out.trans (hb4.mono Hb3.out.size))
      clear hown4 hb4
      go_wp2_with fail
      go_ret
      exact ⟨rfl, Hb4.out⟩
end Go.Proofs.YtfkkcgdniepgoaaGreat
