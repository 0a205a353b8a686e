/- The net: Send, to a nil net too. -/
import Derived.Test.YtadhboioaacaeaaNetCut
namespace Go.Proofs.Ytadhboioaacaeaa
open Go.RowKit
set_option maxHeartbeats 2000000
set_option maxRecDepth 100000
set_option linter.unusedVariables false

theorem send_nil (A : Option Addr) (n c : Nat) (w : World) : Calls Try.prog 9 #[.pointer none, .slice A n c] w fun e w' => e = .returned (.int .i64 0) ∧ w = w' := by
  go_enter Try.func9, Try.ntmps9
  go_wp2_with fail
  go_ret
  exact ⟨rfl, rfl⟩

/-- packets sent one by one: the net's packets behind them, and how many went -/
def sendS (C : Int → Int → Bool) (ps l : List Pk) : List Pk × Nat := l.foldl (fun q p => (putL C q.1 p, q.2 + (putB C q.1 p).toNat)) (ps, 0)
theorem sendS_snoc (C : Int → Int → Bool) (ps l : List Pk) (p : Pk) : sendS C ps (l ++ [p]) = (putL C (sendS C ps l).1 p, (sendS C ps l).2 + (putB C (sendS C ps l).1 p).toNat) := by
  simp [sendS, List.foldl_append]
theorem sendS_le (C : Int → Int → Bool) (ps l : List Pk) : (sendS C ps l).2 ≤ l.length := by
  unfold sendS
  suffices h : ∀ (l : List Pk) (q : List Pk × Nat), (l.foldl (fun q p => (putL C q.1 p, q.2 + (putB C q.1 p).toNat)) q).2 ≤ q.2 + l.length by simpa using h l (ps, 0)
  intro l
  induction l with
  | nil => intro q; simp
  | cons p l ih =>
    intro q
    rw [List.foldl_cons]
    refine Nat.le_trans (ih _) ?_
    have : (putB C q.1 p).toNat ≤ 1 := Bool.toNat_le _
    simp only [List.length_cons]
    omega

/-- packets that a machine can hold -/
def PkOk (p : Pk) : Prop := (-9223372036854775808 ≤ p.1 ∧ p.1 ≤ 9223372036854775807) ∧ -9223372036854775808 ≤ p.2.1 ∧ p.2.1 ≤ 9223372036854775807

theorem add_nextN (a : Addr) (i j : Nat) (hj : 0 < j) : (⟨(a.add i).block, (a.add i).off + j, none⟩ : Addr) = a.add (i + j) := by
  unfold Addr.add
  by_cases h : i = 0
  · subst h; simp [show j ≠ 0 by omega]
  · simp [h, Nat.add_assoc, show i + j ≠ 0 by omega]

theorem send_any (S : Nat → Prop) (g k B n c : Nat) (A : Option Addr) (ps l : List Pk) (C : Int → Int → Bool) (w : World) (h : NetIs w S g ps k C) (ha : SlR w B 3 A n (pkVs l)) (hB : B ≤ w.heap.size) (hA : ∀ ad, A = some ad → ¬ S ad.block) (hn : n ≤ 9223372036854775807) (hok : ∀ p ∈ l, PkOk p) :
    Calls Try.prog 9 #[.pointer (some ⟨g, 0, none⟩), .slice A n c] w fun e w' => e = .returned (.int .i64 ((sendS C ps l).2 : Nat)) ∧ NetStep S g w w' (sendS C ps l).1 k C := by
  have hl : l.length = n := by have := ha.len; rw [pkVs_length] at this; omega
  have Ha := Lib.hid ha; have Hl := Lib.hid hl; have Hok := Lib.hid hok; have HA := Lib.hid hA; have Hh := Lib.hid h
  clear ha hl hok hA h
  go_enter Try.func9, Try.ntmps9
  go_wp2_with fail
  go_loopw [5, 12] (fun cv i wr => ∃ (q : Nat) (qs : List Pk × Nat) (S' : Nat → Prop), q ≤ n ∧ i = .int .i64 q ∧ cv = .int .i64 (qs.2 : Nat) ∧ Hid (qs = sendS C ps (l.take q)) ∧ Hid (NetIs wr S' g qs.1 k C) ∧ Hid (Chg S w wr) ∧ Hid (∀ b, S' b → S b ∨ w.heap.size ≤ b)) (fun _ i _ => n - (intOf i).toNat)
  case atStart => exact ⟨0, (ps, 0), S, Nat.zero_le _, rfl, rfl, Lib.hid (by simp [sendS]), Lib.hid Hh.out, Lib.hid (Chg.refl _ _), Lib.hid (fun b hb => .inl hb)⟩
  case round =>
    obtain ⟨q, qs, S', hq, rfl, rfl, Hqs, Hnet, Hchg, Hs⟩ := hrel
    have hcnt : qs.2 ≤ q := by rw [Hqs.out]; exact Nat.le_trans (sendS_le _ _ _) (List.length_take_le _ _)
    by_cases hlt : q < n
    · obtain ⟨p, hp⟩ : ∃ p, l[q]? = some p := ⟨_, List.getElem?_eq_getElem (by rw [Hl.out]; exact hlt)⟩
      have hr := Ha.out.chg hB Hchg.out HA.out
      obtain ⟨ad, rfl, had, hcell⟩ := hr.cells (by omega)
      have hpok := Hok.out p (List.mem_of_getElem? hp)
      obtain ⟨x, y, s⟩ := p
      have k0 := hcell (q * 3) _ (pkVs_get l q 0 _ hp (by omega))
      have k1 := hcell (q * 3 + 1) _ (pkVs_get l q 1 _ hp (by omega))
      have k2 := hcell (q * 3 + 2) _ (pkVs_get l q 2 _ hp (by omega))
      simp [pkC] at k0 k1 k2
      rw [← add_nextN _ _ _ (by omega)] at k1 k2
      have q0 : (0 : Int) ≤ (q : Int) := by omega
      have q1 : (q : Int) < (n : Int) := by omega
      have Hp := Lib.hid hp; have Hpok := Lib.hid hpok
      have hadw : ad.block < wr.heap.size := Nat.lt_of_lt_of_le had (Nat.le_trans hB Hchg.out.size)
      clear hp hpok hr hcell
      have hput := put_any S' g k qs.1 C x y s (wr.alloc (.cells #[.int .i64 x, .int .i64 y, .string s] 28)) (Hnet.out.alloc _) Hpok.out.1 Hpok.out.2
      have hsn := sendS_snoc C ps (l.take q) (x, y, s)
      rw [← Hqs.out] at hsn
      have htk : l.take (q + 1) = l.take q ++ [(x, y, s)] := by rw [List.take_add_one, Hp.out]; rfl
      rw [← htk] at hsn
      have Hput := Lib.hid hput; have Hsn := Lib.hid hsn
      clear hput hsn htk
      go_wp2_with fail
      refine Hput.out.mono ?_
      rintro e w2 ⟨rfl, hst⟩
      have Hst := Lib.hid hst
      clear hst
      have hlq : qs.2 + 1 ≤ 9223372036854775807 := by omega
      have hfin : ∃ S'', NetIs w2 S'' g (putL C qs.1 (x, y, s)) k C ∧ Chg S w w2 ∧ ∀ b, S'' b → S b ∨ w.heap.size ≤ b := by
        obtain ⟨S'', n1, c1, e1⟩ := Hst.out
        refine ⟨S'', n1, (Hchg.out.alloc _).trans c1 (fun b hb hs => ?_), fun b hb => ?_⟩
        · rcases Hs.out b hs with h | h
          · exact h
          · omega
        · rcases e1 b hb with h | h
          · exact Hs.out b h
          · refine .inr (Nat.le_trans Hchg.out.size (Nat.le_trans ?_ h))
            simp
      obtain ⟨S'', n1, c1, e1⟩ := hfin
      have N1 := Lib.hid n1; have C1 := Lib.hid c1; have E1 := Lib.hid e1
      clear n1 c1 e1
      cases hb : putB C qs.1 (x, y, s) with
      | false =>
        rw [hb] at Hsn
        have Hb := Lib.hid hb; clear hb
        go_wp2_with fail
        go_roundw
        case rel => exact ⟨q + 1, sendS C ps (l.take (q + 1)), S'', by omega, by go_num, by rw [Hsn.out]; rfl, Lib.hid rfl, Lib.hid (by rw [Hsn.out]; exact N1.out), C1, E1⟩
        case measure => simp [intOf] <;> omega
      | true =>
        rw [hb] at Hsn
        have Hb := Lib.hid hb; clear hb
        go_wp2_with fail
        go_roundw
        case rel => exact ⟨q + 1, sendS C ps (l.take (q + 1)), S'', by omega, by go_num, by rw [Hsn.out]; first | rfl | go_num, Lib.hid rfl, Lib.hid (by rw [Hsn.out]; exact N1.out), C1, E1⟩
        case measure => simp [intOf] <;> omega
    · obtain rfl : q = n := by omega
      have hd : ¬ ((q : Int) < (q : Int)) := by omega
      have hqs : qs = sendS C ps l := by rw [Hqs.out, List.take_of_length_le (by rw [Hl.out]; omega)]
      have HQ := Lib.hid hqs; clear hqs hlt
      go_wp2_with fail
      go_ret
      rw [← HQ.out]
      exact ⟨rfl, S', Hnet.out, Hchg.out, Hs.out⟩
end Go.Proofs.Ytadhboioaacaeaa
