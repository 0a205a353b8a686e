/- package vote: Read, walked. -/
import Derived.Test.YtbcbjibbeieaiaaVoteOne
import Derived.Test.YtbcbjibbeieaiaaFrameAll
namespace Go.Proofs.Ytbcbjibbeieaiaa
open Go.RowKit
set_option maxHeartbeats 4000000
set_option maxRecDepth 100000
set_option linter.unusedVariables false

theorem len_le_sum (F : List (List UInt8)) : F.length ≤ (F.map fun x => x.length + 12).sum := by
  induction F with
  | nil => simp
  | cons x F ih => simp only [List.length_cons, List.map_cons, List.sum_cons]; omega
/-- a slice whose block is not block g -/
def SlRN (w : World) (g B : Nat) (A : Option Addr) (n : Nat) (xs : List Value) : Prop := SlR w B 1 A n xs ∧ ∀ ad, A = some ad → 0 < n → ad.block ≠ g
theorem SlRN.set {w : World} {g B : Nat} {A : Option Addr} {n : Nat} {xs : List Value} (h : SlRN w g B A n xs) (i : Nat) (u : Value) : SlRN (w.setCell ⟨g, i, none⟩ u) g B A n xs :=
  ⟨⟨h.1.len, fun hn => by
    obtain ⟨ad, e, hb, hc⟩ := h.1.cells hn
    refine ⟨ad, e, hb, fun j v hv => (World.cell?_setCell_other w _ _ _ ?_).trans (hc j v hv)⟩
    intro e2
    have := h.2 ad e hn
    rw [← add_block ad j, ← e2] at this
    exact this rfl⟩, h.2⟩
theorem SlRN.below {w w' : World} {g B : Nat} {A : Option Addr} {n : Nat} {xs : List Value} (h : SlRN w g B A n xs) (hb : Below B w w') : SlRN w' g B A n xs := ⟨h.1.below hb, h.2⟩
theorem SlRN.alloc {w : World} {g B : Nat} {A : Option Addr} {n : Nat} {xs : List Value} (h : SlRN w g B A n xs) (hB : B ≤ w.heap.size) (o : Obj) : SlRN (w.alloc o) g B A n xs := ⟨h.1.alloc hB o, h.2⟩

theorem voteRead_any (s : ByteArray) (w : World) (hs : s.size ≤ 1000000000) :
    Calls Try.prog 12 #[.string s] w fun e w' =>
      e = .returned (.tuple #[.agg #[.int .i64 (readBytes s.data.toList).1.1, .int .i64 (readBytes s.data.toList).1.2], .int .i64 ((readBytes s.data.toList).2 : Nat)]) ∧ Below w.heap.size w w' := by
  have hal := all_any s ((w.alloc (.cells #[.int .i64 0, .int .i64 0] 32)).alloc (.cells #[.int .i64 0, .int .i64 (-1)] 32)) hs
  have hsum := frames_sum s.data.toList
  have hv : readBytes s.data.toList = readV ((framesL s.data.toList).1.drop 0) (0, -1) 0 := rfl
  rw [← size_list] at hsum
  obtain ⟨F, hF⟩ : ∃ F, (framesL s.data.toList).1 = F := ⟨_, rfl⟩
  rw [hF] at hal hsum hv
  have hle : ∀ k, sumTo F k ≤ s.size := fun k => Nat.le_trans (sumTo_le F k) hsum
  have hFl : F.length ≤ 1000000000 := Nat.le_trans (len_le_sum F) (Nat.le_trans hsum hs)
  have Hal := Lib.hid hal; have Hv := Lib.hid hv; have Hle := Lib.hid hle
  clear hal hv hF hle hsum
  go_enter Try.func12, Try.ntmps12
  go_wp2_with fail
  refine Hal.out.mono ?_
  rintro e w1 ⟨v, rfl, hown1, hb1⟩
  obtain ⟨A, c, rfl, hc⟩ := own_slice hown1
  have hsl : Hid (SlRN w1 (w.heap.size + 1) w1.heap.size A F.length (strVs (F.map mkS))) := Lib.hid ⟨SlR.own hown1, fun ad e hn => by
    obtain ⟨g, cap, hg, hbg, _⟩ := hown1.form hn
    injection hg with hg
    rw [hg] at e
    injection e with e
    subst e
    simp at hbg ⊢
    omega⟩
  have hbw : Below w.heap.size w w1 := (((Below.refl _ _).alloc (Nat.le_refl _) _).alloc (by simp) _).trans (hb1.mono (by simp <;> omega))
  have hR := ((BlkIs.new w 32 #[.int .i64 0, .int .i64 0]).alloc (.cells #[.int .i64 0, .int .i64 (-1)] 32)).below hb1 (by simp <;> omega)
  have hO := (BlkIs.new (w.alloc (.cells #[.int .i64 0, .int .i64 0] 32)) 32 #[.int .i64 0, .int .i64 (-1)]).below hb1 (by simp <;> omega)
  rw [show (w.alloc (.cells #[.int .i64 0, .int .i64 0] 32)).heap.size = w.heap.size + 1 from by simp] at hO
  have HR := Lib.hid hR; have HO := Lib.hid hO
  have hzw : w.heap.size + 1 < w1.heap.size := hO.lt
  clear hown1 hR hO hb1
  go_wp2_with fail
  go_loopw [5, 20] (fun n i wr => ∃ (k : Nat) (o1 o2 : Int), k ≤ F.length ∧ i = .int .i64 k ∧ n = .int .i64 (sumTo F k : Nat) ∧ readV (F.drop 0) (0, -1) 0 = readV (F.drop k) (o1, o2) (sumTo F k) ∧
      BlkIs wr (w.heap.size + 1) 32 #[.int .i64 o1, .int .i64 o2] ∧ BlkIs wr w.heap.size 32 #[.int .i64 0, .int .i64 0] ∧ SlRN wr (w.heap.size + 1) w1.heap.size A F.length (strVs (F.map mkS)) ∧ Below w.heap.size w wr ∧ w1.heap.size ≤ wr.heap.size) (fun _ i _ => F.length - (intOf i).toNat)
  case atStart => exact ⟨0, 0, -1, Nat.zero_le _, rfl, rfl, rfl, HO.out, HR.out, hsl.out, hbw, Nat.le_refl _⟩
  case round =>
    obtain ⟨k, o1, o2, hk, rfl, rfl, hrd, hO, hR, hS, hb, hz⟩ := hrel
    have hsk := Hle.out k
    have Hrd := Lib.hid hrd; clear hrd
    by_cases hlt : k < F.length
    · obtain ⟨ad, u, hA, had, hu, hcell⟩ := hS.1.get hlt
      subst hA
      obtain ⟨x, hx⟩ : ∃ x, F[k]? = some x := ⟨_, List.getElem?_eq_getElem hlt⟩
      obtain rfl : Value.string (mkS x) = u := by simpa [strVs, hx] using hu
      have hst := readV_step F k x hx (o1, o2) (sumTo F k)
      have hss := sumTo_succ F k x hx
      have hsk1 := Hle.out (k + 1)
      have hxl : x.length ≤ 1000000000 := by omega
      have hon := one_any (mkS x) wr (by unfold mkS; rw [size_mk]; exact hxl)
      rw [show (mkS x).data.toList = x from rfl] at hon
      have hsz : (mkS x).size = x.length := size_mk x
      obtain ⟨q, hq⟩ : ∃ q, oneL x = q := ⟨_, rfl⟩
      rw [hq] at hon hst
      have hnn : sumTo F k + x.length + 12 ≤ s.size := by omega
      have Hon := Lib.hid hon; have Hst := Lib.hid hst; have Hss := Lib.hid hss; have HOo := Lib.hid hO; have HRr := Lib.hid hR; have HS := Lib.hid hS
      have hzz : w.heap.size + 1 < wr.heap.size := by omega
      clear hu hx hst hss hon hq hO hR hS had hsk1
      cases hq2 : q.2 with
      | true =>
        rw [hq2] at Hon Hst
        have HstT : Hid (readV (F.drop k) (o1, o2) (sumTo F k) = readV (F.drop (k + 1)) q.1 (sumTo F k + x.length + 12)) := Lib.hid (by rw [Hst.out, if_pos rfl])
        clear hq2
        go_wp2_with fail
        refine Hon.out.mono ?_
        rintro e w2 ⟨rfl, hb2⟩
        have hcO := HOo.out.below hb2 (by omega)
        have hcR := HRr.out.below hb2 (by omega)
        have hcell1 := hcO.cell
        have hfree1 := hcO.free
        have HcO := Lib.hid hcO; have HcR := Lib.hid hcR
        have hzz2 : w.heap.size + 1 < w2.heap.size := by have := hb2.size; omega
        have hz02 : w.heap.size < w2.heap.size := by omega
        clear hcO hcR
        go_wp2_with fail
        go_roundw
        case rel =>
          refine ⟨k + 1, q.1.1, q.1.2, by omega, by go_num, ?_, ?_, ?_, ?_, ?_, ?_, ?_⟩
          · rw [Hss.out]; go_num
          · rw [Hrd.out, HstT.out, Hss.out]; rfl
          · exact ((HcO.out.put 0 _).put 1 _).alloc _
          · exact ((HcR.out.far (p := ⟨w.heap.size + 1, 0, none⟩) (by simp) _).far (p := ⟨w.heap.size + 1, 1, none⟩) (by simp) _).alloc _
          · exact (((HS.out.below (hb2.mono hz)).set 0 _).set 1 _).alloc (by have := hb2.size; simp [World.setCell] <;> omega) _
          · exact (below_two (hb.trans (hb2.mono hb.size)) (by omega) _ _).alloc (by have := hb.size; have := hb2.size; simp [World.setCell] <;> omega) _
          · have := hb2.size; simp [World.setCell] <;> omega
        case measure => simp [intOf]; omega
      | false =>
        rw [hq2] at Hon Hst
        have hfin : readV (F.drop 0) (0, -1) 0 = ((o1, o2), sumTo F k) := by rw [Hrd.out, Hst.out]; rfl
        have Hfin := Lib.hid hfin
        clear hq2 hfin
        go_wp2_with fail
        refine Hon.out.mono ?_
        rintro e w2 ⟨rfl, hb2⟩
        have hcO := HOo.out.below hb2 (by omega)
        have hcR := HRr.out.below hb2 (by omega)
        have hcell1 := hcO.cell
        have hcell0 := hcR.cell
        have hfree0 := hcR.free
        have hzz2 : w.heap.size + 1 < w2.heap.size := by have := hb2.size; omega
        have hz02 : w.heap.size < w2.heap.size := by omega
        clear hcO hcR
        go_wp2_with fail
        refine bodyPost_ret (v := .tuple #[.agg #[.int .i64 o1, .int .i64 o2], .int .i64 (sumTo F k : Nat)]) ?_ rfl ?_
        · simp [results, Try.results12, go_sem, hcell0, hfree0, hz02]
        · rw [Hv.out, Hfin.out]
          exact ⟨rfl, by first | exact below_two ((hb.trans (hb2.mono hb.size)).alloc (by have := hb.size; have := hb2.size; omega) _) (Nat.le_refl _) _ _ | exact (below_two (hb.trans (hb2.mono hb.size)) (Nat.le_refl _) _ _).alloc (by have := hb.size; have := hb2.size; simp [World.setCell] <;> omega) _⟩
    · obtain rfl : k = F.length := by omega
      have hfin : readV (F.drop 0) (0, -1) 0 = ((o1, o2), sumTo F F.length) := by rw [Hrd.out, List.drop_length]; rfl
      have Hfin := Lib.hid hfin
      clear hfin
      have hcell1 := hO.cell
      have hcell0 := hR.cell
      have hfree0 := hR.free
      clear hO hR hS
      go_wp2_with fail
      refine bodyPost_ret (v := .tuple #[.agg #[.int .i64 o1, .int .i64 o2], .int .i64 (sumTo F F.length : Nat)]) ?_ rfl ?_
      · simp [results, Try.results12, go_sem, hcell0, hfree0]
      · rw [Hv.out, Hfin.out]
        exact ⟨rfl, below_two hb (Nat.le_refl _) _ _⟩
end Go.Proofs.Ytbcbjibbeieaiaa
