/- chapter 20: the first call. -/
import Derived.Test.YtadhboioaacaeaaNetSend
namespace Go.Proofs.Ytadhboioaacaeaa
open Go.RowKit
set_option maxHeartbeats 2000000
set_option maxRecDepth 100000
set_option linter.unusedVariables false

/-- the net that a law made: its blocks are new, and what was there is as it was -/
structure NetAt (W w : World) (S : Nat → Prop) (g : Nat) (ps : List Pk) (k : Nat) (C : Int → Int → Bool) : Prop where
  is : NetIs w S g ps k C
  lo : ∀ b, S b → W.heap.size ≤ b ∧ b < w.heap.size
  bel : Below W.heap.size W w

section
variable {W w w' : World} {S : Nat → Prop} {g k k' : Nat} {ps ps' : List Pk} {C C' : Int → Int → Bool}
theorem NetAt.step (h : NetAt W w S g ps k C) (hs : NetStep S g w w' ps' k' C') : ∃ S', NetAt W w' S' g ps' k' C' := by
  obtain ⟨S', n1, c1, e1⟩ := hs
  refine ⟨_, n1.shrink, fun b hb => ⟨?_, hb.2⟩, h.bel.trans (c1.below (fun b hb => (h.lo b hb).1) h.bel.size)⟩
  rcases e1 b hb.1 with h1 | h1
  · exact (h.lo b h1).1
  · exact Nat.le_trans h.bel.size h1
theorem NetAt.under (h : NetAt W w S g ps k C) (hb : Below w.heap.size w w') : NetAt W w' S g ps k C :=
  ⟨h.is.below hb, fun b hs => ⟨(h.lo b hs).1, Nat.lt_of_lt_of_le (h.lo b hs).2 hb.size⟩, h.bel.trans (hb.mono h.bel.size)⟩
theorem NetAt.alloc (h : NetAt W w S g ps k C) (o : Obj) : NetAt W (w.alloc o) S g ps k C := h.under ((Below.refl _ _).alloc (Nat.le_refl _) o)
theorem NetAt.drew (h : NetAt W w S g ps k C) : NetAt W w.drew S g ps k C := h.under (Below.refl _ _).drew
theorem NetAt.drewN (h : NetAt W w S g ps k C) (n : Nat) : NetAt W (w.drewN n) S g ps k C := h.under (below_drewN (Below.refl _ _) n)
theorem NetAt.made (hn : NetIs w (fun b => W.heap.size ≤ b) g ps k C) (hb : Below W.heap.size W w) : ∃ S, NetAt W w S g ps k C := ⟨_, hn.shrink, fun _ h => h, hb⟩
theorem NetAt.len (h : NetAt W w S g ps k C) : ps.length * 3 ≤ ps.length * 3 := Nat.le_refl _
end

/-- packets laid in a new block, to be sent -/
theorem sl_new (w : World) (ps : List Pk) (cs : Array Value) (h : cs.toList = pkVs ps) : SlR (w.alloc (.cells cs 28)) (w.heap.size + 1) 3 (some ⟨w.heap.size, 0, none⟩) ps.length (pkVs ps) := by
  have := SlR.new (n := ps.length) (size := 3) w w.heap.size rfl 28 cs (by rw [h, pkVs_length])
  rw [h] at this
  exact this
theorem NetAt.far {W w : World} {S : Nat → Prop} {g k : Nat} {ps : List Pk} {C : Int → Int → Bool} (h : NetAt W w S g ps k C) : ∀ ad : Addr, (some (⟨w.heap.size, 0, none⟩ : Addr)) = some ad → ¬ S ad.block := by
  rintro ad e hs
  injection e with e
  subst e
  exact Nat.lt_irrefl _ (h.lo _ hs).2
/-- a send of packets that lie in a new block -/
theorem send_new {W w : World} {S : Nat → Prop} {g k : Nat} {ps : List Pk} {C : Int → Int → Bool} (h : NetAt W w S g ps k C) (l : List Pk) (cs : Array Value) (hcs : cs.toList = pkVs l) (hok : ∀ p ∈ l, PkOk p) (hl : l.length ≤ 1000000) (n c : Nat) (hn : n = l.length) :
    Calls Try.prog 9 #[.pointer (some ⟨g, 0, none⟩), .slice (some ⟨w.heap.size, 0, none⟩) n c] (w.alloc (.cells cs 28)) fun e w' => e = .returned (.int .i64 ((sendS C ps l).2 : Nat)) ∧ ∃ S', NetAt W w' S' g (sendS C ps l).1 k C := by
  subst hn
  refine (send_any S g k (w.heap.size + 1) l.length c (some ⟨w.heap.size, 0, none⟩) ps l C _ (h.is.alloc _) (sl_new w l cs hcs) (by simp) h.far (by omega) hok).mono ?_
  rintro e w' ⟨rfl, hs⟩
  exact ⟨rfl, (h.alloc _).step hs⟩

theorem alive20_any (W : World) : Calls Try.prog 7 #[] W fun e w' => e = .returned (.bool true) ∧ Below W.heap.size W w' := by
  obtain ⟨p1, hp1⟩ : ∃ p : Pk, p = (1, 2, ⟨#[120]⟩) := ⟨_, rfl⟩
  obtain ⟨p2, hp2⟩ : ∃ p : Pk, p = (2, 1, ⟨#[121]⟩) := ⟨_, rfl⟩
  have e1 : sendS (fun _ _ => false) [] [p1, p2] = ([p1, p2], 2) := by rw [hp1, hp2]; simp [sendS, putL, putB]
  have e2 : swpB [p1, p2] 0 1 = true := by simp [swpB, hasB]
  have e3 : swpP [p1, p2] 0 1 = [p2, p1] := by simp [swpP, e2, getP, hasB]
  have e4 : getP [p2, p1] 0 = p2 := by simp [getP, hasB]
  have e5 : hasB [p2, p1] 0 = true := by simp [hasB]
  have e6 : dropP [p2, p1] 0 = [p1] := by simp [dropP, e5]
  have e7 : dblB [p1] 0 = true := by simp [dblB, hasB]
  have e8 : dblP [p1] 0 = [p1, p1] := by simp [dblP, e7, getP, hasB]
  have hcs : (#[.int .i64 1, .int .i64 2, .string ⟨#[120]⟩, .int .i64 2, .int .i64 1, .string ⟨#[121]⟩] : Array Value).toList = pkVs [p1, p2] := by rw [hp1, hp2]; rfl
  have hok : ∀ p ∈ [p1, p2], PkOk p := by rw [hp1, hp2]; simp [PkOk]
  have E1 := Lib.hid e1; have E2 := Lib.hid e2; have E3 := Lib.hid e3; have E4 := Lib.hid e4; have E5 := Lib.hid e5; have E6 := Lib.hid e6; have E7 := Lib.hid e7; have E8 := Lib.hid e8
  have Hcs := Lib.hid hcs; have Hok := Lib.hid hok; have P2 := Lib.hid hp2
  clear e1 e2 e3 e4 e5 e6 e7 e8 hcs hok hp1 hp2
  go_enter Try.func7, Try.ntmps7
  go_wp2_with fail
  refine (new_any _).mono ?_
  rintro e w1 ⟨rfl, hn1, hb1⟩
  obtain ⟨S1, N1⟩ := NetAt.made hn1 hb1
  clear hn1 hb1
  go_wp2_with fail
  refine (send_new N1 [p1, p2] _ Hcs.out Hok.out (by simp) _ _ rfl).mono ?_
  rw [E1.out]
  rintro e w2 ⟨rfl, S2, N2⟩
  go_wp2_with fail
  refine (swap_any S2 _ 0 [p1, p2] _ 0 1 _ N2.is (by simp)).mono ?_
  rw [E2.out, E3.out]
  rintro e w3 ⟨rfl, hs3⟩
  obtain ⟨S3, N3⟩ := N2.step hs3
  clear hs3
  go_wp2_with fail
  refine (take_any S3 _ 0 [p2, p1] _ 0 _ N3.is (by simp)).mono ?_
  rw [E4.out, E5.out, E6.out, P2.out]
  unfold pkA
  rintro e w4 ⟨rfl, hs4⟩
  obtain ⟨S4, N4⟩ := N3.step hs4
  clear hs4
  go_wp2_with fail
  refine (double_any S4 _ 0 [p1] _ 0 _ (N4.alloc _).is).mono ?_
  rw [E7.out, E8.out]
  rintro e w5 ⟨rfl, hs5⟩
  obtain ⟨S5, N5⟩ := (N4.alloc _).step hs5
  clear hs5
  go_wp2_with fail
  refine (len_any S5 _ 0 [p1, p1] _ _ N5.is).mono ?_
  rintro e w6 ⟨rfl, rfl⟩
  go_wp2_with fail
  go_ret
  exact ⟨rfl, N5.bel⟩
end Go.Proofs.Ytadhboioaacaeaa
