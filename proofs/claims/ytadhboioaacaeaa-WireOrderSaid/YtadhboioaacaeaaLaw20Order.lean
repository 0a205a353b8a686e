/- chapter 20: WireOrder, walked. -/
import Derived.Test.YtadhboioaacaeaaLaw20
import Derived.IntWalk
namespace Go.Proofs.Ytadhboioaacaeaa
open Go.RowKit
set_option maxHeartbeats 2000000
set_option maxRecDepth 100000
set_option linter.unusedVariables false

/-- the i-th packet -/
def nthP (l : List ByteArray) (i : Nat) : Pk := ((i : Int), (i : Int) + 1, l[i]?.getD ByteArray.empty)
/-- the first n packets -/
def firstPs (l : List ByteArray) (n : Nat) : List Pk := (List.range n).map (nthP l)
theorem firstPs_len (l : List ByteArray) (n : Nat) : (firstPs l n).length = n := by simp [firstPs]
theorem firstPs_snoc (l : List ByteArray) (n : Nat) : firstPs l (n + 1) = firstPs l n ++ [nthP l n] := by simp [firstPs, List.range_succ]
theorem firstPs_get (l : List ByteArray) (n i : Nat) (h : i < n) : (firstPs l n)[i]? = some (nthP l i) := by simp [firstPs, h]
/-- the packets behind Double and Drop -/
def movedPs (l : List ByteArray) (n k : Nat) : List Pk := (firstPs l n).take k ++ (firstPs l n).drop (k + 1) ++ [nthP l k]
theorem movedPs_len (l : List ByteArray) (n k : Nat) (h : k < n) : (movedPs l n k).length = n := by
  simp only [movedPs, List.length_append, List.length_take, List.length_drop, firstPs_len, List.length_cons, List.length_nil]; omega
theorem movedPs_get (l : List ByteArray) (n k i : Nat) (h : k < n) (hi : i < n) : (movedPs l n k)[i]? = some (nthP l (if i < k then i else if i + 1 < n then i + 1 else k)) := by
  have e1 : ((firstPs l n).take k).length = k := by rw [List.length_take, firstPs_len]; omega
  have e2 : ((firstPs l n).drop (k + 1)).length = n - (k + 1) := by rw [List.length_drop, firstPs_len]
  unfold movedPs
  by_cases h1 : i < k
  · rw [if_pos h1, List.append_assoc, List.getElem?_append_left (by omega), List.getElem?_take, if_pos h1, firstPs_get l n i hi]
  · rw [if_neg h1]
    by_cases h2 : i + 1 < n
    · rw [if_pos h2, List.append_assoc, List.getElem?_append_right (by omega), e1, List.getElem?_append_left (by omega), List.getElem?_drop, show k + 1 + (i - k) = i + 1 from by omega, firstPs_get l n (i + 1) h2]
    · rw [if_neg h2, List.getElem?_append_right (by rw [List.length_append, e1, e2]; omega), List.length_append, e1, e2, show i - (k + (n - (k + 1))) = 0 from by omega]
      rfl
theorem send_first (l : List ByteArray) (n : Nat) (hn : n < 2000) : sendS (fun _ _ => false) (firstPs l n) [nthP l n] = (firstPs l (n + 1), 1) := by
  simp [sendS, putL, putB, firstPs_len, hn, firstPs_snoc]
theorem double_first (l : List ByteArray) (n k : Nat) (hk : k < n) (hn : n < 2000) : dblB (firstPs l n) (k : Int) = true ∧ dblP (firstPs l n) (k : Int) = firstPs l n ++ [nthP l k] := by
  have h1 : dblB (firstPs l n) (k : Int) = true := by
    unfold dblB
    rw [hasB_yes (by rw [firstPs_len]; exact hk), firstPs_len]; simp [hn]
  refine ⟨h1, ?_⟩
  unfold dblP
  rw [if_pos h1, getP_yes (firstPs_get l n k hk)]
theorem drop_first (l : List ByteArray) (n k : Nat) (hk : k < n) : hasB (firstPs l n ++ [nthP l k]) (k : Int) = true ∧ dropP (firstPs l n ++ [nthP l k]) (k : Int) = movedPs l n k := by
  have h1 : hasB (firstPs l n ++ [nthP l k]) (k : Int) = true := hasB_yes (by rw [List.length_append, firstPs_len]; omega)
  refine ⟨h1, ?_⟩
  unfold dropP movedPs
  rw [if_pos h1, Int.toNat_natCast, List.take_append_of_le_length (by rw [firstPs_len]; omega), List.drop_append_of_le_length (by rw [firstPs_len]; omega), List.append_assoc]
theorem take_moved (l : List ByteArray) (n k i : Nat) (hk : k < n) (hi : i < n) :
    getP ((movedPs l n k).drop i) 0 = nthP l (if i < k then i else if i + 1 < n then i + 1 else k) ∧ hasB ((movedPs l n k).drop i) 0 = true ∧ dropP ((movedPs l n k).drop i) 0 = (movedPs l n k).drop (i + 1) := by
  have hl : ((movedPs l n k).drop i).length = n - i := by rw [List.length_drop, movedPs_len l n k hk]
  have h1 : hasB ((movedPs l n k).drop i) ((0 : Nat) : Int) = true := hasB_yes (by omega)
  have h2 : ((movedPs l n k).drop i)[0]? = some (nthP l (if i < k then i else if i + 1 < n then i + 1 else k)) := by rw [List.getElem?_drop]; exact movedPs_get l n k i hk hi
  refine ⟨getP_yes h2, h1, ?_⟩
  have h3 : hasB ((movedPs l n k).drop i) 0 = true := h1
  unfold dropP
  rw [if_pos h3]
  simp [List.drop_drop]
theorem take_none (l : List ByteArray) (n k : Nat) (hk : k < n) : getP ((movedPs l n k).drop n) 0 = (0, 0, ByteArray.empty) ∧ hasB ((movedPs l n k).drop n) 0 = false := by
  have h : (movedPs l n k).drop n = [] := List.drop_of_length_le (by rw [movedPs_len l n k hk]; omega)
  rw [h]
  simp [getP, hasB]

theorem wireOrder_any (A : Option Addr) (n c : Nat) (l : List ByteArray) (k : Int) (W : World) (ha : SlR W W.heap.size 1 A n (strVs l)) (hn : n ≤ 9223372036854775807) (hs : ∀ s ∈ l, s.size ≤ 9223372036854775807) :
    Calls Try.prog 3 #[.slice A n c, .int .i64 k] W fun e w' => e = .returned (.bool true) ∧ Below W.heap.size W w' := by
  by_cases c1 : 60 < n
  · clear ha hs
    go_enter Try.func3, Try.ntmps3
    go_wp2_with fail
    refine (alive20_any _).mono ?_
    rintro e w1 ⟨rfl, hb1⟩
    go_wp2_with fail
    go_ret
    exact ⟨rfl, hb1⟩
  have c1 := Nat.not_lt.1 c1
  by_cases c2 : k < 0
  · clear ha hs
    go_enter Try.func3, Try.ntmps3
    go_wp2_with fail
    refine (alive20_any _).mono ?_
    rintro e w1 ⟨rfl, hb1⟩
    go_wp2_with fail
    go_ret
    exact ⟨rfl, hb1⟩
  have c2 := Int.not_lt.1 c2
  by_cases c3 : (n : Int) ≤ k
  · clear ha hs
    go_enter Try.func3, Try.ntmps3
    go_wp2_with fail
    refine (alive20_any _).mono ?_
    rintro e w1 ⟨rfl, hb1⟩
    go_wp2_with fail
    go_ret
    exact ⟨rfl, hb1⟩
  obtain ⟨k, rfl⟩ : ∃ K : Nat, k = (K : Int) := ⟨k.toNat, by omega⟩
  have hk : k < n := by omega
  have hl : l.length = n := by have := ha.len; simpa [strVs] using this
  have Ha := Lib.hid ha; have Hs := Lib.hid hs; have Hl := Lib.hid hl
  clear ha hs hl c2 c3
  go_enter Try.func3, Try.ntmps3
  go_wp2_with fail
  refine (new_any _).mono ?_
  rintro e w1 ⟨rfl, hn1, hb1⟩
  obtain ⟨S1, N1⟩ := NetAt.made hn1 hb1
  have HN1 := Lib.hid N1
  clear hn1 hb1 N1
  generalize hg : W.heap.size + 1 = g at HN1
  have Hg := Lib.hid hg
  clear hg
  go_wp2_with fail
  go_loopw [6] (fun i wr => ∃ (q : Nat) (S : Nat → Prop), q ≤ n ∧ i = .int .i64 q ∧ Hid (NetAt W wr S g (firstPs l q) 0 (fun _ _ => false))) (fun i _ => n - (intOf i).toNat)
  case atStart => exact ⟨0, S1, Nat.zero_le _, rfl, HN1⟩
  case round =>
    obtain ⟨q, S, hq, rfl, HN⟩ := hrel
    by_cases hlt : q < n
    · obtain ⟨ad, u, hA, had, hu, hcell⟩ := (Ha.out.below HN.out.bel).get hlt
      subst hA
      obtain ⟨s, hs, rfl⟩ := strVs_get hu
      have hsz := Hs.out s (List.mem_of_getElem? hs)
      have hnp : nthP l q = ((q : Int), (q : Int) + 1, s) := by unfold nthP; rw [hs]; rfl
      have q0 : (0 : Int) ≤ (q : Int) := by omega
      have q1 : (q : Int) < (n : Int) := by omega
      have Hnp := Lib.hid hnp
      clear hu hs hnp had
      by_cases hbig : 300 < s.size
      · have d1 : decide ((300 : Int) < (s.size : Int)) = true := by simp; omega
        go_wp2_with fail
        refine (alive20_any _).mono ?_
        rintro e w2 ⟨rfl, hb2⟩
        go_wp2_with fail
        go_ret
        exact ⟨rfl, (HN.out.under hb2).bel⟩
      · have d1 : decide ((300 : Int) < (s.size : Int)) = false := by simp; omega
        have hsnd := send_new HN.out [((q : Int), (q : Int) + 1, s)] #[.int .i64 q, .int .i64 ((q : Int) + 1), .string s] rfl (by simp [PkOk]; omega) (by simp) 1 1 rfl
        rw [← Hnp.out, send_first l q (by omega)] at hsnd
        have Hsnd := Lib.hid hsnd
        clear hsnd
        go_wp2_with fail
        refine Hsnd.out.mono ?_
        rintro e w2 ⟨rfl, S2, N2⟩
        have HN2 := Lib.hid N2
        clear N2
        go_wp2_with fail
        go_roundw
        case rel => exact ⟨q + 1, S2, by omega, by go_num, HN2⟩
        case measure => simp [intOf] <;> omega
    · obtain rfl : q = n := by omega
      have hd : decide (q < q) = false := by simp
      have hdb := double_first l q k hk (by omega)
      have hdr := drop_first l q k hk
      have hlen := movedPs_len l q k hk
      have Hdb := Lib.hid hdb; have Hdr := Lib.hid hdr; have Hlen := Lib.hid hlen
      clear hlt hdb hdr hlen
      go_wp2_with fail
      have h1 := double_any S g 0 (firstPs l q) _ (k : Int) _ HN.out.is
      rw [Hdb.out.1, Hdb.out.2] at h1
      refine h1.mono ?_
      clear h1
      rintro e w2 ⟨rfl, hs2⟩
      obtain ⟨S2, N2⟩ := HN.out.step hs2
      have HN2 := Lib.hid N2
      clear hs2 N2
      go_wp2_with fail
      have h1 := drop_any S2 g 0 _ _ (k : Int) _ HN2.out.is (by rw [List.length_append, firstPs_len]; simp; omega) (by omega)
      rw [Hdr.out.1, Hdr.out.2] at h1
      refine h1.mono ?_
      clear h1
      rintro e w3 ⟨rfl, hs3⟩
      obtain ⟨S3, N3⟩ := HN2.out.step hs3
      have HN3 := Lib.hid N3
      clear hs3 N3
      go_wp2_with fail
      have h1 := len_any S3 g 0 _ _ _ HN3.out.is
      rw [Hlen.out] at h1
      refine h1.mono ?_
      clear h1
      rintro e w4 ⟨rfl, rfl⟩
      go_wp2_with fail
      go_loopw [7] (fun i wr => ∃ (j : Nat) (S : Nat → Prop), j ≤ q ∧ i = .int .i64 j ∧ Hid (NetAt W wr S g ((movedPs l q k).drop j) 0 (fun _ _ => false))) (fun i _ => q - (intOf i).toNat)
      case atStart => exact ⟨0, S3, Nat.zero_le _, rfl, HN3⟩
      case round =>
        obtain ⟨j, Sj, hj, rfl, HNj⟩ := hrel
        by_cases hlt : j < q
        · have j0 : (0 : Int) ≤ (j : Int) := by omega
          have htk := take_moved l q k j hk hlt
          obtain ⟨J, hJ⟩ : ∃ J, J = (if j < k then j else if j + 1 < q then j + 1 else k) := ⟨_, rfl⟩
          rw [← hJ] at htk
          have hJq : J < q := by rw [hJ]; split <;> (try split) <;> omega
          have hta := take_any Sj g 0 _ _ 0 wr HNj.out.is (by rw [List.length_drop, Hlen.out]; omega) (by decide)
          rw [htk.1, htk.2.1, htk.2.2] at hta
          obtain ⟨ad, u, hA, had, hu, hcell⟩ := Ha.out.get hJq
          subst hA
          obtain ⟨s, hs, rfl⟩ := strVs_get hu
          have hnp : nthP l J = ((J : Int), (J : Int) + 1, s) := by unfold nthP; rw [hs]; rfl
          rw [hnp] at hta
          unfold pkA at hta
          have Hta := Lib.hid hta
          have HC := Lib.hid hcell
          clear hu hs hta htk hcell hnp
          have J0 : (0 : Int) ≤ (J : Int) := by omega
          have J1 : (J : Int) < (q : Int) := by omega
          by_cases h1 : j < k
          · rw [if_pos h1] at hJ
            subst hJ
            have d1 : decide (k ≤ J) = false := by simp; omega
            have d2 : ((J : Int) == (q : Int)) = false := by rw [beq_eq_false_iff_ne]; omega
            clear h1
            go_wp2_with fail
            refine Hta.out.mono ?_
            rintro e w5 ⟨rfl, hs5⟩
            obtain ⟨S5, N5⟩ := HNj.out.step hs5
            have HN5 := Lib.hid (N5.alloc (.cells #[.int .i64 (J : Int), .int .i64 ((J : Int) + 1), .string s] 28))
            have hcell := (HN5.out.bel.cell (p := ad.add J) (by rw [add_block]; exact had)).trans HC.out
            clear hs5 N5
            go_wp2_with fail
            go_quiet (fail)
            go_wp2_with fail
            go_roundw
            case rel => exact ⟨J + 1, S5, by omega, by go_num, Lib.hid (HN5.out.drewN _)⟩
            case measure => simp [intOf] <;> omega
          · rw [if_neg h1] at hJ
            have d1 : decide (k ≤ j) = true := by simp; omega
            by_cases h2 : j + 1 < q
            · rw [if_pos h2] at hJ
              subst hJ
              have d2 : ((j : Int) + 1 == (q : Int)) = false := by rw [beq_eq_false_iff_ne]; omega
              have e1 : ((j + 1 : Nat) : Int) = (j : Int) + 1 := by omega
              rw [e1] at Hta J0 J1
              have e2 : ((j : Int) + 1).toNat = j + 1 := by omega
              have e3 : IntKind.i64.wrap ((j : Int) + 1) = (j : Int) + 1 := IntWalk.i64_in _ (by omega)
              have E1 := Lib.hid e1
              clear h1 h2 e1
              go_wp2_with fail
              refine Hta.out.mono ?_
              rintro e w5 ⟨rfl, hs5⟩
              obtain ⟨S5, N5⟩ := HNj.out.step hs5
              have HN5 := Lib.hid (N5.alloc (.cells #[.int .i64 ((j : Int) + 1), .int .i64 (((j : Int) + 1) + 1), .string s] 28))
              have hcell := (HN5.out.bel.cell (p := ad.add (j + 1)) (by rw [add_block]; exact had)).trans HC.out
              rw [show ad.add (j + 1) = ⟨ad.block, ad.off + (j + 1), none⟩ from by unfold Addr.add; simp] at hcell
              clear hs5 N5
              go_wp2_with fail
              go_quiet (fail)
              go_wp2_with fail
              go_roundw
              case rel => exact ⟨j + 1, S5, by omega, by go_num, Lib.hid (HN5.out.drewN _)⟩
              case measure => simp [intOf] <;> omega
            · rw [if_neg h2] at hJ
              subst hJ
              have d2 : ((j : Int) + 1 == (q : Int)) = true := by rw [beq_iff_eq]; omega
              clear h1 h2
              go_wp2_with fail
              refine Hta.out.mono ?_
              rintro e w5 ⟨rfl, hs5⟩
              obtain ⟨S5, N5⟩ := HNj.out.step hs5
              have HN5 := Lib.hid (N5.alloc (.cells #[.int .i64 (J : Int), .int .i64 ((J : Int) + 1), .string s] 28))
              have hcell := (HN5.out.bel.cell (p := ad.add J) (by rw [add_block]; exact had)).trans HC.out
              clear hs5 N5
              go_wp2_with fail
              go_quiet (fail)
              go_wp2_with fail
              go_roundw
              case rel => exact ⟨j + 1, S5, by omega, by go_num, Lib.hid (HN5.out.drewN _)⟩
              case measure => simp [intOf] <;> omega
        · obtain rfl : j = q := by omega
          have hd7 : decide (j < j) = false := by simp
          have htn := take_none l j k hk
          have hta := take_any Sj g 0 _ _ 0 wr HNj.out.is (by rw [List.length_drop, Hlen.out]; omega) (by decide)
          rw [htn.1, htn.2] at hta
          unfold pkA at hta
          have Hta := Lib.hid hta
          clear htn hta hlt
          go_wp2_with fail
          refine Hta.out.mono ?_
          rintro e w5 ⟨rfl, hs5⟩
          obtain ⟨S5, N5⟩ := HNj.out.step hs5
          have HN5 := Lib.hid (N5.alloc (.cells #[.int .i64 0, .int .i64 0, .string ByteArray.empty] 28))
          clear hs5 N5
          go_wp2_with fail
          refine (alive20_any _).mono ?_
          rintro e w6 ⟨rfl, hb6⟩
          have hfin := (HN5.out.under hb6).bel
          have HF := Lib.hid hfin
          clear hb6 hfin
          go_wp2_with fail
          go_ret
          exact ⟨rfl, HF.out⟩
end Go.Proofs.Ytadhboioaacaeaa
