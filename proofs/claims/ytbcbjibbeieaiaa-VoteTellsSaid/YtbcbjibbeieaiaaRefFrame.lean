/- chronicleref7: number, value, Frame, First, walked: the document's own frames are the program's. -/
import Derived.Test.YtbcbjibbeieaiaaRefOut
import Derived.Test.YtbcbjibbeieaiaaRefIn
import Derived.Test.YtbcbjibbeieaiaaFrame
import Derived.Test.YtbcbjibbeieaiaaRefSum
namespace Go.Proofs.Ytbcbjibbeieaiaa
open Go.RowKit
set_option maxHeartbeats 1000000
set_option maxRecDepth 100000
set_option linter.unusedVariables false

/-! ### the plain law -/
theorem beVal_inj4 {a b : List UInt8} (ha : a.length = 4) (hb : b.length = 4) (h : beVal a = beVal b) : a = b := by
  have h1 := beBytes_beVal a
  have h2 := beBytes_beVal b
  rw [ha] at h1
  rw [hb] at h2
  rw [← h1, ← h2, h]
/-- the document's first frame, n being what the first four bytes tell -/
theorem firstL_ref (b : List UInt8) (n : Nat) (hn : beVal (b.take 4) = n) : firstL b =
    if b.length < 12 then ([], 0, 5) else if 4000 < n then ([], 0, 6) else if b.length < n + 12 then ([], 0, 5) else
    if beVal ((b.drop (8 + n)).take 4) ≠ n then ([], 0, 6) else if frameL ((b.drop 8).take n) ≠ b.take (n + 12) then ([], 0, 7) else ((b.drop 8).take n, n + 12, 0) := by
  unfold firstL
  rw [hn]
  by_cases h1 : b.length < 12
  · rw [if_pos h1, if_pos h1]
  rw [if_neg h1, if_neg h1]
  by_cases h2 : 4000 < n
  · rw [if_pos h2, if_pos h2]
  rw [if_neg h2, if_neg h2]
  by_cases h3 : b.length < n + 12
  · rw [if_pos h3, if_pos h3]
  rw [if_neg h3, if_neg h3]
  have ht : (b.take (n + 12)).drop (n + 8) = (b.drop (8 + n)).take 4 := by rw [List.drop_take, show n + 12 - (n + 8) = 4 from by omega, Nat.add_comm n 8]
  have hl4 : (b.take 4).length = 4 := by rw [List.length_take]; omega
  have hl5 : ((b.drop (8 + n)).take 4).length = 4 := by rw [List.length_take, List.length_drop]; omega
  rw [ht]
  by_cases h4 : (b.drop (8 + n)).take 4 = b.take 4
  · rw [if_neg (show ¬ ((b.drop (8 + n)).take 4 ≠ b.take 4) by simpa using h4), if_neg (show ¬ (beVal ((b.drop (8 + n)).take 4) ≠ n) by rw [h4, hn]; simp)]
    have hfl : (b.take (n + 12)).length = n + 12 := by rw [List.length_take]; omega
    have hx : ((b.take (n + 12)).drop 8).take ((b.take (n + 12)).length - 12) = (b.drop 8).take n := by
      rw [hfl, List.drop_take, List.take_take, show min (n + 12 - 12) (n + 12 - 8) = n from by omega]
    by_cases h5 : frameL ((b.drop 8).take n) = b.take (n + 12)
    · have := fOpen_frame ((b.drop 8).take n)
      rw [h5] at this
      rw [this, if_neg (by simp), if_neg (show ¬ (frameL ((b.drop 8).take n) ≠ b.take (n + 12)) by simpa using h5)]
    · have h6 : (fOpen (b.take (n + 12))).2 = 7 := by
        unfold fOpen
        split
        · rename_i hs
          exfalso
          apply h5
          have h0 : fOpen (b.take (n + 12)) = ((b.drop 8).take n, 0) := by unfold fOpen; rw [if_pos hs, hx]
          have hf := frame_of (b.take (n + 12)) n (by omega) hfl (by rw [List.take_take, Nat.min_eq_left (by omega)]; exact hn) (by rw [ht, List.take_take, Nat.min_eq_left (by omega)]; exact h4) (by rw [h0])
          rw [h0] at hf
          exact hf.1.symm
        · rfl
      rw [if_pos (by rw [h6]; decide), if_pos h5, h6]
  · rw [if_pos h4, if_pos (fun e => h4 (beVal_inj4 hl5 hl4 (e.trans hn.symm)))]
/-- the document's last frame -/
theorem lastL_ref (b : List UInt8) (n : Nat) (hn : beVal (backL b) = n) : lastL b =
    if b.length < 12 then ([], 0, 5) else if 4000 < n then ([], 0, 6) else if b.length < n + 12 then ([], 0, 5) else
    if beVal ((b.drop (b.length - n - 12)).take 4) ≠ n then ([], 0, 6) else firstL (b.drop (b.length - n - 12)) := by
  unfold lastL
  rw [hn]
  by_cases h1 : b.length < 12
  · rw [if_pos h1, if_pos h1]
  rw [if_neg h1, if_neg h1]
  by_cases h2 : 4000 < n
  · rw [if_pos h2, if_pos h2]
  rw [if_neg h2, if_neg h2]
  by_cases h3 : b.length < n + 12
  · rw [if_pos h3, if_pos h3]
  rw [if_neg h3, if_neg h3]
  rw [show b.length - (n + 12) = b.length - n - 12 from by omega]
  have hcl : (b.drop (b.length - n - 12)).length = n + 12 := by rw [List.length_drop]; omega
  have hbk : backL b = (b.drop (b.length - n - 12)).drop (n + 8) := by unfold backL; rw [List.drop_drop]; congr 1; omega
  rw [hbk]
  rw [hbk] at hn
  generalize b.drop (b.length - n - 12) = c at hcl hn
  have hl4 : (c.take 4).length = 4 := by rw [List.length_take]; omega
  have hl5 : (c.drop (n + 8)).length = 4 := by rw [List.length_drop]; omega
  by_cases h4 : c.take 4 = c.drop (n + 8)
  · rw [if_neg (show ¬ (c.take 4 ≠ c.drop (n + 8)) by simpa using h4), if_neg (show ¬ (beVal (c.take 4) ≠ n) by rw [h4, hn]; simp)]
    unfold firstL
    rw [h4, hn, if_neg (show ¬ c.length < 12 by omega), if_neg (show ¬ 4000 < n from h2), if_neg (show ¬ c.length < n + 12 by omega), List.take_of_length_le (show c.length ≤ n + 12 by omega), if_neg (show ¬ (c.drop (n + 8) ≠ c.drop (n + 8)) by simp)]
  · rw [if_pos h4, if_pos (fun e => h4 (beVal_inj4 hl4 hl5 (e.trans hn.symm)))]

/-! ### the walks -/
theorem refNumber_any (n k : Nat) (w : World) (hn : n ≤ 9223372036854775807) (hk : k ≤ 8) :
    Calls Try.prog 46 #[.int .i64 n, .int .i64 k] w fun e w' => e = .returned (.string ⟨(beBytes k n).toArray⟩) ∧ Below w.heap.size w w' := by
  go_enter Try.func46, Try.ntmps46
  go_wp2_with fail
  refine (refNum_any w.heap.size w.heap.size k n [] _ (rout_new w) (by simp) (by simp; omega) hk (by omega)).mono ?_
  rintro e w1 ⟨rfl, ⟨v, hB, _, hown⟩, hb1⟩
  have hc0 := hB.cell 0
  simp at hc0
  rw [List.nil_append] at hown
  have hbl := beBytes_length k n
  obtain ⟨bs, hbs⟩ : ∃ bs, beBytes k n = bs := ⟨_, rfl⟩
  rw [hbs] at hown hbl
  have Hbs := Lib.hid hbs; clear hbs
  have hstr := run_str_own (P := Try.prog) w1 60 9 5 Try.underlying60 Try.underlying5 Try.underlying9 w.heap.size v bs hown
  have hbw : Below w.heap.size w w1 := ((Below.refl _ _).alloc (Nat.le_refl _) _).trans hb1
  clear hown hB hbl
  go_wp2_with fail
  go_ret
  rw [Hbs.out]
  exact ⟨rfl, hbw⟩

theorem inNum_all (bs : List UInt8) : inNum bs.length bs 0 = beVal bs := by
  unfold inNum
  rw [inTake_ok (Nat.le_refl _), List.take_of_length_le (Nat.le_refl _)]
theorem refValue_any (s : ByteArray) (w : World) (hs : s.size ≤ 7) :
    Calls Try.prog 61 #[.string s] w fun e w' => e = .returned (.int .i64 (beVal s.data.toList : Nat)) ∧ Below w.heap.size w w' := by
  obtain ⟨l, hl⟩ : ∃ l, s.data.toList = l := ⟨_, rfl⟩
  have hsl : s.size = l.length := by rw [← hl]; exact size_list s
  have hse : s = ⟨l.toArray⟩ := str_mk hl
  have hv : beVal l < 9223372036854775808 := by
    have h1 := beVal_lt l
    have h2 : 256 ^ l.length ≤ 256 ^ 7 := Nat.pow_le_pow_right (by decide) (by omega)
    omega
  have hin := inNum_all l
  subst hse
  rw [hl]
  have hlen : l.length ≤ 7 := by omega
  have hwr : IntKind.i64.wrap ((beVal l : Nat) : Int) = ((beVal l : Nat) : Int) := IntWalk.i64_in _ (by omega)
  generalize hx : beVal l = x at hv hin hwr
  have Hin := Lib.hid hin; have Hwr := Lib.hid hwr
  clear hin hl hsl hx hs
  go_enter Try.func61, Try.ntmps61
  go_wp2_with fail
  refine (refInNum_any w.heap.size w.heap.size l.length l 0 _ (RinIs.new w l) (by omega) (by omega)).mono ?_
  rintro e w1 ⟨rfl, _, hb1⟩
  rw [Hin.out]
  have hbw : Below w.heap.size w w1 := ((Below.refl _ _).alloc (Nat.le_refl _) _).trans hb1
  go_wp2_with fail
  go_ret
  exact ⟨rfl, hbw⟩

theorem refFrame_any (s : ByteArray) (w : World) (hs : s.size ≤ 1000000000) :
    Calls Try.prog 34 #[.string s] w fun e w' => e = .returned (.tuple #[.string ⟨(putL s.data.toList).1.toArray⟩, .int .i64 (putL s.data.toList).2]) ∧ Below w.heap.size w w' := by
  obtain ⟨l, hl⟩ : ∃ l, s.data.toList = l := ⟨_, rfl⟩
  have hsl : s.size = l.length := by rw [← hl]; exact size_list s
  have hse : s = ⟨l.toArray⟩ := str_mk hl
  subst hse
  rw [hl]
  by_cases hb : 4000 < l.length
  · have hv : putL l = ([], 2) := by unfold putL; rw [if_pos hb]
    have Hv := Lib.hid hv
    have hb' : (4000 : Int) < (l.length : Int) := by omega
    clear hv hl hsl
    go_enter Try.func34, Try.ntmps34
    go_wp2_with fail
    go_ret2
    rw [Hv.out]
    exact ⟨rfl, Below.refl _ _⟩
  · have hv : putL l = (frameL l, 0) := by unfold putL; rw [if_neg hb]
    have hb' : (l.length : Int) ≤ 4000 := by omega
    have hnl : (beBytes 4 l.length).length = 4 := beBytes_length _ _
    obtain ⟨N, hN⟩ : ∃ N, beBytes 4 l.length = N := ⟨_, rfl⟩
    rw [hN] at hnl
    have hcr : (crc (N ++ l)).toNat < 4294967296 := crc_lt _
    obtain ⟨C, hC⟩ : ∃ C, (crc (N ++ l)).toNat = C := ⟨_, rfl⟩
    rw [hC] at hcr
    have hcl : (beBytes 4 C).length = 4 := beBytes_length _ _
    obtain ⟨D, hD⟩ : ∃ D, beBytes 4 C = D := ⟨_, rfl⟩
    rw [hD] at hcl
    have hfr : frameL l = N ++ (D ++ (l ++ N)) := by unfold frameL fSum; rw [hN, hC, hD]
    have hw : IntKind.i64.wrap ((C : Nat) : Int) = ((C : Nat) : Int) := IntWalk.i64_in _ (by omega)
    have Hv := Lib.hid hv; have HN := Lib.hid hN; have HC := Lib.hid hC; have HD := Lib.hid hD; have Hfr := Lib.hid hfr; have Hw := Lib.hid hw
    have hN4 : N.length ≤ 4 := by omega
    have hD4 : D.length ≤ 4 := by omega
    have hl4 : l.length ≤ 4000 := by omega
    clear hv hl hsl hN hC hD hfr hw hnl hcl hb
    go_enter Try.func34, Try.ntmps34
    go_wp2_with fail
    refine (refNumber_any l.length 4 _ (by omega) (by omega)).mono ?_
    rintro e w1 ⟨rfl, hb1⟩
    rw [HN.out]
    go_wp2_with fail
    refine (refSum_any _ _ (by rw [ByteArray.size_append, size_mk, size_mk]; omega)).mono ?_
    rintro e w2 ⟨rfl, rfl⟩
    rw [show (crc (⟨N.toArray⟩ ++ ⟨l.toArray⟩ : ByteArray).data.toList).toNat = C from by rw [str_append]; exact HC.out]
    go_wp2_with fail
    refine (refNumber_any C 4 _ (by omega) (by omega)).mono ?_
    rintro e w2 ⟨rfl, hb2⟩
    rw [HD.out]
    go_wp2_with fail
    go_ret2
    rw [Hv.out, Hfr.out]
    exact ⟨by rw [str_append, str_append, str_append]; simp, hb1.trans (hb2.mono hb1.size)⟩
end Go.Proofs.Ytbcbjibbeieaiaa
