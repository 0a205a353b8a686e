/- The net: Take, Drop, of a nil net too. -/
import Derived.Test.YtadhboioaacaeaaNetIs
namespace Go.Proofs.Ytadhboioaacaeaa
open Go.RowKit
set_option maxHeartbeats 2000000
set_option maxRecDepth 100000
set_option linter.unusedVariables false

def dropP (ps : List Pk) (j : Int) : List Pk := if hasB ps j then ps.take j.toNat ++ ps.drop (j.toNat + 1) else ps

theorem netIs_row {S : Nat → Prop} {g k n r : Nat} {xs : List Value} {ps : List Pk} {C : Int → Int → Bool} {X w4 : World} {v v' : Value} {D : DataW Unit}
    (hB : BlkIs X g 51 #[v, .map (some r)]) (hr : X.ownsRow 0 28 3 v n xs) (hm : X.ownsMap Try.prog 53 (unitElem (H := Unit)) r k D) (hD : CutD D C) (s1 : S g) (s2 : S r)
    (hg : X.grownBy w4 v.ownBlock) (hown : w4.ownsRow 0 28 3 v' ps.length (pkVs ps)) (s4 : ∀ x, v'.ownBlock = some x → S x) : NetIs (w4.setCell ⟨g, 0, none⟩ v') S g ps k C := by
  have hne := own_ne_blk hr hB (by decide)
  have hB4 := hB.grown hg (Ne.symm hne)
  have hne4 := own_ne_blk hown hB4 (by decide)
  have hm4 := hm.kept hg (Ne.symm (own_ne_map hm hr))
  exact ⟨v', r, D, hB4.put 0 v', own_far hown hne4 _, hm4.setCell (Ne.symm (blk_ne_map hm hB)) _, hD, s1, s2, s4⟩

/-- three cells of a block set -/
def set3 (w : World) (g : Nat) (x y z : Value) : World := ((w.setCell ⟨g, 0, none⟩ x).setCell ⟨g, 1, none⟩ y).setCell ⟨g, 2, none⟩ z
theorem set3_blk {w : World} {g : Nat} {t : TypeId} {a b c : Value} (h : BlkIs w g t #[a, b, c]) (x y z : Value) : BlkIs (set3 w g x y z) g t #[x, y, z] := by
  have := ((h.put 0 x).put 1 y).put 2 z
  simpa [set3] using this
theorem set3_chg {S : Nat → Prop} {w w' : World} {g : Nat} (h : Chg S w w') (hg : g < w.heap.size → S g) (x y z : Value) : Chg S w (set3 w' g x y z) := ((h.set (a := ⟨g, 0, none⟩) hg x).set (a := ⟨g, 1, none⟩) hg y).set (a := ⟨g, 2, none⟩) hg z
theorem set3_below {B : Nat} {w w' : World} {g : Nat} (h : Below B w w') (hg : B ≤ g) (x y z : Value) : Below B w (set3 w' g x y z) := ((h.setCell (p := ⟨g, 0, none⟩) hg x).setCell (p := ⟨g, 1, none⟩) hg y).setCell (p := ⟨g, 2, none⟩) hg z
/-- a packet that a call answers in a block of its own -/
def zero3 (w : World) : World := w.alloc (.cells #[.int .i64 0, .int .i64 0, .string ByteArray.empty] 28)
theorem zero3_blk {w w1 : World} (hb : Below (zero3 w).heap.size (zero3 w) w1) : BlkIs w1 w.heap.size 28 #[.int .i64 0, .int .i64 0, .string ByteArray.empty] :=
  (BlkIs.new w _ _).below hb (by simp [zero3])

theorem take_nil (j : Int) (w : World) : Calls Try.prog 13 #[.pointer none, .int .i64 j] w fun e w' => e = .returned (.tuple #[pkA (0, 0, ByteArray.empty), .bool false]) ∧ Below w.heap.size w w' := by
  have hp := peek_nil j (w.alloc (.cells #[.int .i64 0, .int .i64 0, .string ByteArray.empty] 28))
  have Hp := Lib.hid hp; clear hp
  go_enter Try.func13, Try.ntmps13
  go_wp2_with fail
  unfold pkA at Hp
  refine Hp.out.mono ?_
  rintro e w1 ⟨rfl, hb1⟩
  have hlt : w.heap.size < w1.heap.size := Nat.lt_of_lt_of_le (by simp) hb1.size
  have hc : ∀ i, w1.cell? ⟨w.heap.size, i, none⟩ = (#[.int .i64 0, .int .i64 0, .string ByteArray.empty] : Array Value)[i]? := fun i => (hb1.cell (p := ⟨w.heap.size, i, none⟩) (by simp)).trans ((BlkIs.new w 28 #[.int .i64 0, .int .i64 0, .string ByteArray.empty]).cell i)
  have hf : ∀ i, w1.frozen? ⟨w.heap.size, i, none⟩ = false := fun i => (hb1.frozen (p := ⟨w.heap.size, i, none⟩) (by simp)).trans ((BlkIs.new w 28 #[.int .i64 0, .int .i64 0, .string ByteArray.empty]).free i)
  have Hb1 := Lib.hid hb1; clear hb1
  go_wp2_with fail
  obtain ⟨W, hW⟩ : ∃ W, W = (set3 w1 w.heap.size (.int .i64 0) (.int .i64 0) (.string ByteArray.empty)).alloc (.cells #[.int .i64 0, .int .i64 0, .string ByteArray.empty] 28) := ⟨_, rfl⟩
  have hBW := (set3_blk (zero3_blk (by exact Hb1.out)) (.int .i64 0) (.int .i64 0) (.string ByteArray.empty)).alloc (.cells #[.int .i64 0, .int .i64 0, .string ByteArray.empty] 28)
  have hbel : Below w.heap.size w W := by
    rw [hW]
    refine below_new (set3_below ?_ (Nat.le_refl _) _ _ _) (Nat.le_refl _) _
    exact ((Below.refl _ _).alloc (Nat.le_refl _) _).trans (Hb1.out.mono (by simp))
  rw [← hW] at hBW
  unfold set3 at hW
  rw [← hW]
  have c0 := hBW.cell 0; have c1 := hBW.cell 1; have c2 := hBW.cell 2
  simp at c0 c1 c2
  clear hW
  exact bodyPost_ret (v := .tuple #[pkA (0, 0, ByteArray.empty), .bool false]) (by simp [results, Try.results13, go_sem, pkA, c0, c1, c2]; try rfl) rfl ⟨rfl, hbel⟩

/-- what Take does to the net -/
theorem take_any (S : Nat → Prop) (g k : Nat) (ps : List Pk) (C : Int → Int → Bool) (j : Int) (w : World) (h : NetIs w S g ps k C) (hlen : ps.length ≤ 1000000) :
    Calls Try.prog 13 #[.pointer (some ⟨g, 0, none⟩), .int .i64 j] w fun e w' => e = .returned (.tuple #[pkA (getP ps j), .bool (hasB ps j)]) ∧ NetStep S g w w' (dropP ps j) k C := by
  have hp := peek_any S g k ps C j (zero3 w) (h.alloc _) hlen
  have hsh := h.shrink
  cases hb : hasB ps j with
  | false =>
    have hd : dropP ps j = ps := by unfold dropP; rw [hb]; rfl
    have hg : getP ps j = (0, 0, ByteArray.empty) := by unfold getP; rw [hb]; rfl
    rw [hd, hg]
    rw [hb, hg] at hp
    unfold pkA zero3 at hp
    have Hp := Lib.hid hp; have Hh := Lib.hid h
    clear hp h hd hb hg hsh
    go_enter Try.func13, Try.ntmps13
    go_wp2_with fail
    refine Hp.out.mono ?_
    rintro e w1 ⟨rfl, hb1⟩
    have hlt : w.heap.size < w1.heap.size := Nat.lt_of_lt_of_le (by simp) hb1.size
    have hc : ∀ i, w1.cell? ⟨w.heap.size, i, none⟩ = (#[.int .i64 0, .int .i64 0, .string ByteArray.empty] : Array Value)[i]? := fun i => (hb1.cell (p := ⟨w.heap.size, i, none⟩) (by simp)).trans ((BlkIs.new w 28 #[.int .i64 0, .int .i64 0, .string ByteArray.empty]).cell i)
    have hf : ∀ i, w1.frozen? ⟨w.heap.size, i, none⟩ = false := fun i => (hb1.frozen (p := ⟨w.heap.size, i, none⟩) (by simp)).trans ((BlkIs.new w 28 #[.int .i64 0, .int .i64 0, .string ByteArray.empty]).free i)
    have Hb1 := Lib.hid hb1; clear hb1
    go_wp2_with fail
    obtain ⟨W, hW⟩ : ∃ W, W = (set3 w1 w.heap.size (.int .i64 0) (.int .i64 0) (.string ByteArray.empty)).alloc (.cells #[.int .i64 0, .int .i64 0, .string ByteArray.empty] 28) := ⟨_, rfl⟩
    have hBW := (set3_blk (zero3_blk (by exact Hb1.out)) (.int .i64 0) (.int .i64 0) (.string ByteArray.empty)).alloc (.cells #[.int .i64 0, .int .i64 0, .string ByteArray.empty] 28)
    have hbel : Below w.heap.size w W := by
      rw [hW]
      refine below_new (set3_below ?_ (Nat.le_refl _) _ _ _) (Nat.le_refl _) _
      exact ((Below.refl _ _).alloc (Nat.le_refl _) _).trans (Hb1.out.mono (by simp))
    rw [← hW] at hBW
    unfold set3 at hW
    rw [← hW]
    have c0 := hBW.cell 0; have c1 := hBW.cell 1; have c2 := hBW.cell 2
    simp at c0 c1 c2
    clear hW
    exact bodyPost_ret (v := .tuple #[pkA (0, 0, ByteArray.empty), .bool false]) (by simp [results, Try.results13, go_sem, pkA, c0, c1, c2]; try rfl) rfl ⟨rfl, NetIs.same Hh.out hbel⟩
  | true =>
    obtain ⟨n, rfl, hn⟩ := hasB_nat hb
    obtain ⟨p, hpn⟩ : ∃ p, ps[n]? = some p := ⟨_, List.getElem?_eq_getElem hn⟩
    have hd : dropP ps (n : Int) = ps.take n ++ ps.drop (n + 1) := by unfold dropP; rw [hb]; rfl
    have hgp := getP_yes hpn
    rw [hd, hgp]
    rw [hb, hgp] at hp
    obtain ⟨x, y, s⟩ := p
    unfold pkA zero3 at hp
    obtain ⟨v, r, D, hB, hr, hm, hD, s1, s2, s3⟩ := id hsh
    obtain ⟨q, c, rfl, _, hq⟩ := hr.form (by omega)
    have hnc := own_cap hr (by omega)
    have hcm : c ≤ maxLen := by
      rcases hr.2 with ⟨h', _⟩ | ⟨g', cap', cur, h', _, hg, _, hcm, _⟩
      · simp at h'
      · injection h' with _ _ h'; omega
    have hgw := hB.lt
    have Hp := Lib.hid hp; have Hh := Lib.hid h
    have HB := Lib.hid hB; have HR := Lib.hid hr; have HM := Lib.hid hm; have HD := Lib.hid hD; have S3 := Lib.hid s3
    simp only [maxLen] at hcm
    clear hp h hd hb hgp hsh hB hr hm hD s3 hpn
    go_enter Try.func13, Try.ntmps13
    go_wp2_with fail
    refine Hp.out.mono ?_
    rintro e w1 ⟨rfl, hb1⟩
    have hlt : w.heap.size < w1.heap.size := Nat.lt_of_lt_of_le (by simp) hb1.size
    have hz1 := zero3_blk (w := w) (by exact hb1)
    have hbw1 : Below w.heap.size w w1 := ((Below.refl _ _).alloc (Nat.le_refl _) _).trans (hb1.mono (by simp))
    obtain ⟨W2, hW2⟩ : ∃ W2, W2 = w1.alloc (.cells #[.int .i64 x, .int .i64 y, .string s] 28) := ⟨_, rfl⟩
    have hbW2 : Below w.heap.size w W2 := by rw [hW2]; exact below_new hbw1 (Nat.le_refl _) _
    have hB1 := HB.out.below hbw1 hgw
    have hc0 := hB1.cell 0
    simp at hc0
    have hg1 : g < w1.heap.size := hB1.lt
    have HB2 := Lib.hid (HB.out.below hbW2 hgw)
    have HW2 := Lib.hid hW2
    have HR2 := Lib.hid (own_below HR.out hbW2 (fun b hb => (HR.out.lt b hb).2))
    have HM2 := Lib.hid (map_chg HM.out (Chg.of_below (S := fun _ => False) hbW2) (fun h => h))
    have Hz2 := Lib.hid (show BlkIs W2 w.heap.size 28 #[.int .i64 0, .int .i64 0, .string ByteArray.empty] by rw [hW2]; exact hz1.alloc _)
    have Hp2 := Lib.hid (show BlkIs W2 w1.heap.size 28 #[.int .i64 x, .int .i64 y, .string s] by rw [hW2]; exact BlkIs.new _ _ _)
    have HbW2 := Lib.hid hbW2
    clear hB1 hbW2 hz1 hb1 hbw1 hW2
    go_wp2_with fail
    rw [← HW2.out]
    refine (delete_any q ps.length c n ps W2 HR2.out hn hlen hcm).mono ?_
    rintro e w3 ⟨rfl, hown3, hgr3⟩
    have hqg : q ≠ g := by have := own_ne_blk HR2.out HB2.out (by decide); simpa [Value.ownBlock] using this
    have hqw : q ≠ w.heap.size := by omega
    have hqw1 : q ≠ w1.heap.size := by omega
    have hB3 := HB2.out.grown hgr3 (by simpa using Ne.symm hqg)
    have hz3 := Hz2.out.grown hgr3 (by simpa using Ne.symm hqw)
    have hp3 := Hp2.out.grown hgr3 (by simpa using Ne.symm hqw1)
    have cg := hB3.cell 0; have fg := hB3.free 0
    have cz0 := hz3.cell 0; have cz1 := hz3.cell 1; have cz2 := hz3.cell 2; have fz := hz3.free
    have cp0 := hp3.cell 0; have cp1 := hp3.cell 1; have cp2 := hp3.cell 2
    simp at cg cz0 cz1 cz2 cp0 cp1 cp2
    have hgz : g ≠ w.heap.size := by omega
    have hgp : g ≠ w1.heap.size := by omega
    have Hown3 := Lib.hid hown3; have Hgr3 := Lib.hid hgr3; have HB3 := Lib.hid hB3; have Hz3 := Lib.hid hz3
    clear hown3 hgr3 hB3 hz3 hp3 hc0
    go_wp2_with fail
    obtain ⟨W4, hW4⟩ : ∃ W4, W4 = w3.setCell ⟨g, 0, none⟩ (.slice (some ⟨q, 0, none⟩) (ps.length - 1) c) := ⟨_, rfl⟩
    obtain ⟨W, hW⟩ : ∃ W, W = set3 W4 w.heap.size (.int .i64 x) (.int .i64 y) (.string s) := ⟨_, rfl⟩
    have hz4 : BlkIs W4 w.heap.size 28 #[.int .i64 0, .int .i64 0, .string ByteArray.empty] := by rw [hW4]; exact Hz3.out.far (p := ⟨g, 0, none⟩) (Ne.symm hgz) _
    have hBW := set3_blk hz4 (.int .i64 x) (.int .i64 y) (.string s)
    have hnet : NetIs W4 (fun b => S b ∧ b < w.heap.size) g (ps.take n ++ ps.drop (n + 1)) k C := by
      rw [hW4]
      refine netIs_row HB2.out HR2.out HM2.out HD.out s1 s2 Hgr3.out ?_ (fun b hb => S3.out b hb)
      have e : (ps.take n ++ ps.drop (n + 1)).length = ps.length - 1 := by rw [List.length_append, List.length_take, List.length_drop]; omega
      rw [e]
      exact Hown3.out
    have hnetW : NetIs W (fun b => S b ∧ b < w.heap.size) g (ps.take n ++ ps.drop (n + 1)) k C := by
      rw [hW]
      refine hnet.chg (T := fun b => b = w.heap.size) (set3_chg (Chg.refl (fun b => b = w.heap.size) W4) (fun _ => (rfl : w.heap.size = w.heap.size)) _ _ _) (fun b _ hb e => ?_)
      rw [e] at hb
      exact Nat.lt_irrefl _ hb.2
    have hchg : Chg S w W := by
      rw [hW]
      refine set3_chg ?_ (fun h => absurd h (Nat.lt_irrefl _)) _ _ _
      rw [hW4]
      exact ((Chg.of_below HbW2.out).grown Hgr3.out (fun b hb _ => (S3.out b hb).1)).set (fun _ => s1.1) _
    have hfin : NetStep S g w W (ps.take n ++ ps.drop (n + 1)) k C := ⟨_, hnetW, hchg, fun b hb => .inl hb.1⟩
    rw [← hW] at hBW
    unfold set3 at hW
    rw [← hW4, ← hW]
    have c0 := hBW.cell 0; have c1 := hBW.cell 1; have c2 := hBW.cell 2
    simp at c0 c1 c2
    exact bodyPost_ret (v := .tuple #[pkA (x, y, s), .bool true]) (by clear hW hW4; simp [results, Try.results13, go_sem, pkA, c0, c1, c2]) rfl ⟨rfl, hfin⟩

theorem drop_nil (j : Int) (w : World) : Calls Try.prog 11 #[.pointer none, .int .i64 j] w fun e w' => e = .returned (.bool false) ∧ Below w.heap.size w w' := by
  have Hp := Lib.hid (take_nil j w)
  unfold pkA at Hp
  go_enter Try.func11, Try.ntmps11
  go_wp2_with fail
  refine Hp.out.mono ?_
  rintro e w1 ⟨rfl, hb1⟩
  have Hb1 := Lib.hid hb1; clear hb1
  go_wp2_with fail
  go_ret
  exact ⟨rfl, below_new Hb1.out (Nat.le_refl _) _⟩
theorem netStep_alloc {S : Nat → Prop} {g k : Nat} {ps : List Pk} {C : Int → Int → Bool} {w w' : World} (h : NetStep S g w w' ps k C) (o : Obj) : NetStep S g w (w'.alloc o) ps k C := by
  obtain ⟨S', h1, h2, h3⟩ := h
  exact ⟨S', h1.alloc o, h2.alloc o, h3⟩
theorem drop_any (S : Nat → Prop) (g k : Nat) (ps : List Pk) (C : Int → Int → Bool) (j : Int) (w : World) (h : NetIs w S g ps k C) (hlen : ps.length ≤ 1000000) :
    Calls Try.prog 11 #[.pointer (some ⟨g, 0, none⟩), .int .i64 j] w fun e w' => e = .returned (.bool (hasB ps j)) ∧ NetStep S g w w' (dropP ps j) k C := by
  have hp := take_any S g k ps C j w h hlen
  generalize getP ps j = p at hp
  generalize hasB ps j = b at hp ⊢
  generalize dropP ps j = qs at hp ⊢
  obtain ⟨x, y, s⟩ := p
  unfold pkA at hp
  have Hp := Lib.hid hp; clear hp h
  go_enter Try.func11, Try.ntmps11
  go_wp2_with fail
  refine Hp.out.mono ?_
  rintro e w1 ⟨rfl, hb1⟩
  have Hb1 := Lib.hid hb1; clear hb1
  go_wp2_with fail
  go_ret
  exact ⟨rfl, netStep_alloc Hb1.out _⟩
end Go.Proofs.Ytadhboioaacaeaa
