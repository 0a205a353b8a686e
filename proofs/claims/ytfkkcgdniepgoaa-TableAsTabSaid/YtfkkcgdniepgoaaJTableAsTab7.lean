/- joined texts. -/
import Derived.Test.YtfkkcgdniepgoaaTblOpen
import Derived.Test.YtfkkcgdniepgoaaTabClone
/- chapter 13: Len, All. -/
namespace Go.Proofs.Ytfkkcgdniepgoaa
open Go.RowKit
set_option maxHeartbeats 2000000
set_option maxRecDepth 100000
set_option linter.unusedVariables false

theorem TblIs.below {w w' : World} {base g B : Nat} {l : List En} (h : TblIs w base g l) (hb : Below B w w') (hB : w.heap.size ≤ B) : TblIs w' base g l := by
  obtain ⟨v, h1, h2, h3⟩ := h
  exact ⟨v, h1.below hb (Nat.lt_of_lt_of_le h1.lt hB), h2, own_below h3 hb (fun q hq => Nat.lt_of_lt_of_le (h3.lt q hq).2 hB)⟩
theorem TblIs.lt {w : World} {base g : Nat} {l : List En} (h : TblIs w base g l) : g < w.heap.size := by obtain ⟨v, h1, _⟩ := h; exact h1.lt

theorem tblLen_any (base T : Nat) (l : List En) (w : World) (h : TblIs w base T l) (hn : l.length ≤ 1000000) :
    Calls Try.prog 23 #[.pointer (some ⟨T, 0, none⟩)] w fun x w' => x = .returned (.int .i64 (l.length : Int)) ∧ w = w' := by
  obtain ⟨v, hB, hb, hr⟩ := h
  have hc0 := hB.cell 0
  obtain ⟨A, c, rfl, hnc⟩ := own_slice hr
  simp at hc0
  clear hB hr
  go_enter Try.func23, Try.ntmps23
  go_wp2_with fail
  go_ret
  exact ⟨rfl, rfl⟩

theorem tblAll_any (base T : Nat) (l : List En) (w : World) (h : TblIs w base T l) (hn : l.length ≤ 1000000) :
    Calls Try.prog 22 #[.pointer (some ⟨T, 0, none⟩)] w fun x w' => ∃ u, x = .returned u ∧ w'.ownsRow w.heap.size 33 3 u l.length (enVs l) ∧ Below w.heap.size w w' := by
  obtain ⟨v, hB, hb, hr⟩ := h
  have hc0 := hB.cell 0
  obtain ⟨A, c, rfl, hnc⟩ := own_slice hr
  simp at hc0
  have hnil : A = none → l.length = 0 ∧ c = 0 := by
    rintro rfl
    rcases hr.2 with ⟨h1, h2⟩ | ⟨g, cap, cur, h1, _⟩
    · injection h1 with h3 h4 h5; exact ⟨h2, h5⟩
    · injection h1 with h3; cases h3
  have hcl := clone_any A l.length c w.heap.size l w (SlR.own hr) (Nat.le_refl _) hn hnil
  clear hB hr
  go_enter Try.func22, Try.ntmps22
  go_wp2_with (go_at_call 39; refine hcl.mono ?_; rintro x w1 ⟨u, rfl, hown1, hb1⟩)
  go_ret
  exact ⟨u, rfl, hown1, hb1⟩
end Go.Proofs.Ytfkkcgdniepgoaa

/- chapter 13: Mids. -/
namespace Go.Proofs.Ytfkkcgdniepgoaa
open Go.RowKit
set_option maxHeartbeats 4000000
set_option maxRecDepth 100000
set_option linter.unusedVariables false

/-- the midpoints of the first k of n entries -/
def midsTo (l : List En) : Nat → List En
  | 0 => []
  | k + 1 => midsTo l k ++ (match l[k]? with | some e => if k % 8 = 0 ∨ k + 1 = l.length then [e] else [] | none => [])
def midsE (l : List En) : List En := midsTo l l.length
theorem midsTo_length (l : List En) (k : Nat) : (midsTo l k).length ≤ k := by
  induction k with
  | zero => simp [midsTo]
  | succ k ih =>
    rw [midsTo, List.length_append]
    have : (match l[k]? with | some e => if k % 8 = 0 ∨ k + 1 = l.length then [e] else [] | none => ([] : List En)).length ≤ 1 := by
      split
      · split <;> simp
      · simp
    omega

theorem tblMids_any (base T : Nat) (l : List En) (w : World) (h : TblIs w base T l) (hn : l.length ≤ 1000000) :
    Calls Try.prog 9 #[.pointer (some ⟨T, 0, none⟩)] w fun x w' => ∃ u, x = .returned u ∧ w'.ownsRow w.heap.size 33 3 u (midsE l).length (enVs (midsE l)) ∧ Below w.heap.size w w' := by
  obtain ⟨i0, hi0, hz0, hz1, hz2⟩ := info_parts info_en
  have hal := tblAll_any base T l w h hn
  have HTt := Lib.hid h; have Hal := Lib.hid hal
  clear h hal
  go_enter Try.func9, Try.ntmps9
  go_wp2_with fail
  refine Hal.out.mono ?_
  rintro x w1 ⟨u, rfl, hown1, hb1⟩
  obtain ⟨A, c, rfl, hnc⟩ := own_slice hown1
  have Hr := Lib.hid (SlR.own hown1)
  have Hb1 := Lib.hid hb1
  have Ht1 := Lib.hid (HTt.out.below hb1 (Nat.le_refl _))
  clear hown1 hb1 hnc
  go_wp2_with fail
  go_loopw [3, 9] (fun o i wr => ∃ (k : Nat) (u : Value), u = o ∧ k ≤ l.length ∧ i = .int .i64 (k : Int) ∧ Hid (wr.ownsRow w1.heap.size 33 3 u (midsTo l k).length (enVs (midsTo l k)) ∧ Below w1.heap.size w1 wr)) (fun _ i _ => l.length - (intOf i).toNat)
  case atStart => exact ⟨0, _, rfl, Nat.zero_le _, rfl, Lib.hid ⟨World.ownsRow_nil _ _ _ _, Below.refl _ _⟩⟩
  case round =>
    obtain ⟨k, u, rfl, hk, rfl, HI⟩ := hrel
    have hk0 : 0 ≤ (k : Int) := by omega
    by_cases hlt : k < l.length
    · obtain ⟨ad, x, rfl, had, hx, hat⟩ := (Hr.out.below HI.out.2).en (k := k) (by omega)
      obtain ⟨x0, x1, x2⟩ := x
      obtain ⟨a0, a1, a2⟩ := id hat
      dsimp only at a0 a1 a2
      have Hx := Lib.hid hx
      have hlt1 : (k : Int) < (l.length : Int) := by omega
      have hk9 : (k : Int) ≤ 1000000 := by omega
      have hlen := fun w9 (h9 : TblIs w9 base T l) => tblLen_any base T l w9 h9 hn
      have Ht9 := Lib.hid (Ht1.out.below HI.out.2 (Nat.le_refl _))
      have Hlen := Lib.hid hlen
      obtain ⟨V, hV⟩ : ∃ V, wr.alloc (.cells #[.int .i64 x0, .int .i64 x1, .int .i64 x2] 33) = V := ⟨_, rfl⟩
      have hE : BlkIs V wr.heap.size 33 #[.int .i64 x0, .int .i64 x1, .int .i64 x2] := by rw [← hV]; exact BlkIs.new _ _ _
      have hbV : Below wr.heap.size wr V := by rw [← hV]; exact (Below.refl _ _).alloc (Nat.le_refl _) _
      have b0 := hE.cell 0; have b1 := hE.cell 1; have b2 := hE.cell 2
      have HtV := Lib.hid (Ht9.out.below hbV (Nat.le_refl _))
      have HoV := Lib.hid (own_below HI.out.1 hbV (fun q hq => (HI.out.1.lt q hq).2))
      have HbV := Lib.hid (HI.out.2.trans (hbV.mono HI.out.2.size))
      clear hx hat hlen hE hbV
      have hsn : midsTo l (k + 1) = midsTo l k ++ (if k % 8 = 0 ∨ k + 1 = l.length then [(x0, x1, x2)] else []) := by rw [midsTo, Hx.out]
      have hFl := midsTo_length l k
      have HI2 := Lib.hid HI.out.2
      have hbs := HbV.out.size
      clear HI
      generalize midsTo l k = F at hsn hFl HoV
      have hwl : IntKind.i64.wrap ((l.length : Int) - 1) = (l.length : Int) - 1 := IntWalk.i64_in _ (by omega)
      by_cases h8 : k % 8 = 0
      · have hd8 : ((k : Int) % 8 == 0) = true := by rw [beq_iff_eq]; omega
        have Hsn := Lib.hid (hsn.trans (by rw [if_pos (.inl h8)]))
        clear hsn
        go_wp2_with (at_builtin; refine wpList_append_lies _ rfl (.tmp 24) (.tmp 26) _ rfl w1.heap.size 33 i0 _ 3 24 Try.underlying22 hi0 hz0 hz1 hz2 rfl (by omega) u F.length (enVs F) rfl (HoV.out.alloc _) ⟨V.heap.size, 0, none⟩ 1 1 (enC (x0, x1, x2)) rfl rfl (World.news_of_block (cs := #[.int .i64 x0, .int .i64 x1, .int .i64 x2]) (heap_alloc_new V _)) (enC_one _) (by omega) (by simp only [maxLen]; omega) (by omega) (by simp <;> omega) (V.heap.size + 1) (by simp) ?_; intro g cp w2 hown2 hgrow hat2 hlt2)
        have hb2 : Below w1.heap.size w1 w2 := (HbV.out.alloc HbV.out.size (.cells #[.int .i64 x0, .int .i64 x1, .int .i64 x2] 33)).grown hgrow (by simp <;> omega) (fun q hq => (HoV.out.lt q hq).1)
        have hfin : Hid (w2.ownsRow w1.heap.size 33 3 (.slice (some ⟨g, 0, none⟩) (F.length + 1) cp) (midsTo l (k + 1)).length (enVs (midsTo l (k + 1))) ∧ Below w1.heap.size w1 w2) := Lib.hid ⟨by rw [Hsn.out, enVs_append]; simpa [enVs] using hown2, hb2⟩
        clear hown2 hgrow hat2 hlt2 hb2
        go_roundw
        case rel => exact ⟨k + 1, _, rfl, by omega, by go_num, hfin⟩
        case measure => simp [intOf]; omega
      · have hd8 : ((k : Int) % 8 == 0) = false := by rw [beq_eq_false_iff_ne]; omega
        by_cases h9 : k + 1 = l.length
        · have hd9 : ((k : Int) == (l.length : Int) - 1) = true := by rw [beq_iff_eq]; omega
          have Hsn := Lib.hid (hsn.trans (by rw [if_pos (.inr h9)]))
          clear hsn h9
          go_wp2_with fail
          refine (Hlen.out _ HtV.out).mono ?_
          rintro e wy ⟨rfl, rfl⟩
          go_wp2_with (at_builtin; refine wpList_append_lies _ rfl (.tmp 24) (.tmp 26) _ rfl w1.heap.size 33 i0 _ 3 24 Try.underlying22 hi0 hz0 hz1 hz2 rfl (by omega) u F.length (enVs F) rfl (HoV.out.alloc _) ⟨V.heap.size, 0, none⟩ 1 1 (enC (x0, x1, x2)) rfl rfl (World.news_of_block (cs := #[.int .i64 x0, .int .i64 x1, .int .i64 x2]) (heap_alloc_new V _)) (enC_one _) (by omega) (by simp only [maxLen]; omega) (by omega) (by simp <;> omega) (V.heap.size + 1) (by simp) ?_; intro g cp w2 hown2 hgrow hat2 hlt2)
          have hb2 : Below w1.heap.size w1 w2 := (HbV.out.alloc HbV.out.size (.cells #[.int .i64 x0, .int .i64 x1, .int .i64 x2] 33)).grown hgrow (by simp <;> omega) (fun q hq => (HoV.out.lt q hq).1)
          have hfin : Hid (w2.ownsRow w1.heap.size 33 3 (.slice (some ⟨g, 0, none⟩) (F.length + 1) cp) (midsTo l (k + 1)).length (enVs (midsTo l (k + 1))) ∧ Below w1.heap.size w1 w2) := Lib.hid ⟨by rw [Hsn.out, enVs_append]; simpa [enVs] using hown2, hb2⟩
          clear hown2 hgrow hat2 hlt2 hb2
          go_roundw
          case rel => exact ⟨k + 1, _, rfl, by omega, by go_num, hfin⟩
          case measure => simp [intOf]; omega
        · have hd9 : ((k : Int) == (l.length : Int) - 1) = false := by rw [beq_eq_false_iff_ne]; omega
          have Hsn := Lib.hid (hsn.trans (by rw [if_neg (fun q => q.elim h8 h9), List.append_nil]))
          clear hsn
          go_wp2_with fail
          refine (Hlen.out _ HtV.out).mono ?_
          rintro e wy ⟨rfl, rfl⟩
          go_wp2_with fail
          have hfin : Hid (V.ownsRow w1.heap.size 33 3 u (midsTo l (k + 1)).length (enVs (midsTo l (k + 1))) ∧ Below w1.heap.size w1 V) := Lib.hid ⟨by rw [Hsn.out]; exact HoV.out, HbV.out⟩
          go_roundw
          case rel => exact ⟨k + 1, u, rfl, by omega, by go_num, hfin⟩
          case measure => simp [intOf]; omega
    · obtain rfl : k = l.length := by omega
      go_wp2_with fail
      go_ret
      exact ⟨u, rfl, own_mono HI.out.1 Hb1.out.size, Hb1.out.trans (HI.out.2.mono Hb1.out.size)⟩
end Go.Proofs.Ytfkkcgdniepgoaa

