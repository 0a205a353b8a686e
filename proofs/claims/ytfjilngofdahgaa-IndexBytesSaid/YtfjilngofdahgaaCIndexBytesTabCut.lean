/- chapter 12: Cut: slices.IndexFunc, slices.DeleteFunc with the closure of Cut. -/
import Derived.Test.YtfjilngofdahgaaJIndexBytes3
import Derived.Test.YtfjilngofdahgaaCIndexBytesTabRow

namespace Go.Proofs.Ytfjilngofdahgaa
open Go.RowKit
set_option maxHeartbeats 2000000
set_option maxRecDepth 100000
set_option linter.unusedVariables false

def delE (p : Int) (e : En) : Bool := decide (p ≤ e.2.2)
/-- how many stand ahead of the first one that goes -/
def idxD (l : List En) (p : Int) : Nat := (l.takeWhile fun e => !delE p e).length
theorem cutE_del (l : List En) (p : Int) : cutE l p = l.filter fun e => !delE p e := by
  unfold cutE
  congr 1
  funext e
  unfold delE
  rw [← decide_not]
  congr 1
  simp
theorem idxD_le (l : List En) (p : Int) : idxD l p ≤ l.length := (List.takeWhile_prefix _).length_le
theorem idxD_at {l : List En} {p : Int} {i : Nat} {x : En} (hi : ∀ j y, j < i → l[j]? = some y → delE p y = false) (hx : l[i]? = some x) (hd : delE p x = true) : idxD l p = i := by
  have h1 := (List.getElem?_eq_some_iff.1 hx).1
  have e1 : l = l.take i ++ x :: l.drop (i + 1) := by
    rw [← (List.getElem?_eq_some_iff.1 hx).2, List.getElem_cons_drop, List.take_append_drop]
  have h2 : ∀ y ∈ l.take i, (!delE p y) = true := fun y hy => by
    obtain ⟨j, hj⟩ := List.getElem?_of_mem hy
    rw [List.getElem?_take] at hj
    split at hj
    · rw [hi j y (by assumption) hj]; rfl
    · cases hj
  unfold idxD
  rw [e1, List.takeWhile_append_of_pos h2, List.takeWhile_cons_of_neg (by simp [hd]), List.append_nil, List.length_take]
  omega
def idxI (l : List En) (p : Int) : Int := if idxD l p = l.length then -1 else (idxD l p : Nat)
theorem idxD_none {l : List En} {p : Int} (h : ∀ (j : Nat) (y : En), l[j]? = some y → delE p y = false) : idxD l p = l.length := by
  have h2 : ∀ y ∈ l, (!delE p y) = true := fun y hy => by
    obtain ⟨j, hj⟩ := List.getElem?_of_mem hy
    rw [h j y hj]; rfl
  have h3 : (l ++ []).takeWhile (fun e => !delE p e) = l ++ ([] : List En).takeWhile (fun e => !delE p e) := List.takeWhile_append_of_pos h2
  rw [List.append_nil] at h3
  unfold idxD
  rw [h3]
  simp

theorem idxD_split (l : List En) (p : Int) (h : idxD l p < l.length) : cutE (l.take (idxD l p + 1)) p = l.take (idxD l p) ∧ ∃ x, l[idxD l p]? = some x ∧ delE p x = true := by
  have h1 := List.takeWhile_prefix (fun e => !delE p e) (l := l)
  have h2 : l.take (idxD l p) = l.takeWhile fun e => !delE p e := (List.prefix_iff_eq_take.1 h1).symm
  have h3 : (l.takeWhile fun e => !delE p e).filter (fun e => !delE p e) = l.takeWhile fun e => !delE p e := by
    rw [List.filter_eq_self]
    intro x hx
    exact List.all_eq_true.1 (List.all_takeWhile (p := fun e => !delE p e) (l := l)) x hx
  have hx : l[idxD l p]? = some l[idxD l p] := List.getElem?_eq_getElem h
  have h4 : delE p l[idxD l p] = true := by
    have h5 := List.takeWhile_append_dropWhile (p := fun e => !delE p e) (l := l)
    have h6 : l.dropWhile (fun e => !delE p e) ≠ [] := by
      intro e
      rw [e, List.append_nil] at h5
      unfold idxD at h
      rw [h5] at h
      exact Nat.lt_irrefl _ h
    have h7 := List.head_dropWhile_not (fun e => !delE p e) h6
    have h8 : l[idxD l p]? = some ((l.dropWhile (fun e => !delE p e)).head h6) := by
      conv => lhs; rw [← h5]
      unfold idxD
      rw [List.getElem?_append_right (by rw [h5]; exact Nat.le_refl _), h5, Nat.sub_self, ← List.head?_eq_getElem?]
      exact List.head?_eq_some_head h6
    rw [hx] at h8
    injection h8 with h8
    rw [h8]
    simpa using h7
  refine ⟨?_, _, hx, h4⟩
  rw [cutE_del, filter_snoc _ l _ _ hx, h4, h2, h3]
  simp

theorem cutF_any (e : En) (p : Int) (b : Nat) (w : World) (hb : w.cell? ⟨b, 0, none⟩ = some (.int .i64 p)) (hl : b < w.heap.size) :
    Calls Try.prog 44 (#[enA e] ++ #[.pointer (some ⟨b, 0, none⟩)]) w fun x w' => x = .returned (.bool (delE p e)) ∧ Below w.heap.size w w' := by
  obtain ⟨e0, e1, e2⟩ := e
  unfold enA delE
  dsimp only
  have hb0 : Below w.heap.size w (w.alloc (.cells #[.int .i64 e0, .int .i64 e1, .int .i64 e2] 27)) := (Below.refl _ _).alloc (Nat.le_refl _) _
  have Hb0 := Lib.hid hb0
  clear hb0
  show Calls Try.prog 44 #[.agg #[.int .i64 e0, .int .i64 e1, .int .i64 e2], .pointer (some ⟨b, 0, none⟩)] w _
  go_enter Try.func44, Try.ntmps44
  go_wp2_with fail
  go_ret
  exact ⟨rfl, Hb0.out⟩

theorem indexFunc_any (A : Option Addr) (n c B b : Nat) (l : List En) (p : Int) (w : World) (hr : SlR w B 3 A n (enVs l)) (hB : B ≤ w.heap.size) (hn : n ≤ 1000000) (hb : BlkIs w b 3 #[.int .i64 p]) :
    Calls Try.prog 63 #[.slice A n c, .func (.func 44) #[] #[.pointer (some ⟨b, 0, none⟩)]] w fun x w' => x = .returned (.int .i64 (idxI l p)) ∧ Below w.heap.size w w' := by
  have hl : l.length = n := by have := hr.len; rw [enVs_length] at this; omega
  have Hr := Lib.hid hr; have Hl := Lib.hid hl; have Hb := Lib.hid hb
  have hbl := hb.lt
  clear hr hl hb
  go_enter Try.func63, Try.ntmps63
  go_wp2_with fail
  go_loopw [8] (fun i wr => ∃ k : Nat, k ≤ n ∧ i = .int .i64 (k : Int) ∧ Hid ((∀ (j : Nat) (y : En), j < k → l[j]? = some y → delE p y = false) ∧ Below w.heap.size w wr)) (fun i _ => n - (intOf i).toNat)
  case atStart => exact ⟨0, Nat.zero_le _, rfl, Lib.hid ⟨fun j _ h => absurd h (by omega), Below.refl _ _⟩⟩
  case round =>
    obtain ⟨k, hk, rfl, HI⟩ := hrel
    have hk0 : 0 ≤ (k : Int) := by omega
    by_cases hlt : k < n
    · obtain ⟨ad, ⟨x0, x1, x2⟩, rfl, had, hx, hc⟩ := Hr.out.en (k := k) (by omega)
      obtain ⟨a0, a1, a2⟩ := hc.below (HI.out.2.mono hB) (by rw [add_block]; exact had)
      dsimp only at a0 a1 a2
      have hlt1 : (k : Int) < (n : Int) := by omega
      have hbx := (Hb.out.below HI.out.2 hbl)
      have hcf := cutF_any (x0, x1, x2) p b wr (by simpa using hbx.cell 0) hbx.lt
      unfold enA at hcf
      dsimp only at hcf
      have Hx := Lib.hid hx
      clear hx hc hbx had
      cases hd : delE p (x0, x1, x2) with
      | true =>
        rw [hd] at hcf
        have Hcf := Lib.hid hcf
        have hidx := idxD_at HI.out.1 Hx.out hd
        have Hidx := Lib.hid hidx
        clear hcf hd hidx
        go_wp2_with fail
        refine Hcf.out.mono ?_
        rintro e w1 ⟨rfl, hb1⟩
        have hfin := Lib.hid (HI.out.2.trans (hb1.mono HI.out.2.size))
        clear hb1
        go_wp2_with fail
        go_ret
        refine ⟨?_, hfin.out⟩
        unfold idxI
        rw [Hidx.out, Hl.out, if_neg (by omega)]; rfl
      | false =>
        rw [hd] at hcf
        have Hcf := Lib.hid hcf
        have Hd := Lib.hid hd
        clear hcf hd
        go_wp2_with fail
        refine Hcf.out.mono ?_
        rintro e w1 ⟨rfl, hb1⟩
        have hfin : Hid ((∀ (j : Nat) (y : En), j < k + 1 → l[j]? = some y → delE p y = false) ∧ Below w.heap.size w w1) := Lib.hid ⟨fun j y hj hy => by
          rcases Nat.lt_succ_iff_lt_or_eq.1 hj with h3 | rfl
          · exact HI.out.1 j y h3 hy
          · rw [Hx.out] at hy; injection hy with hy; rw [← hy]; exact Hd.out, HI.out.2.trans (hb1.mono HI.out.2.size)⟩
        clear hb1
        go_wp2_with fail
        go_roundw
        case rel => exact ⟨k + 1, by omega, by go_num, hfin⟩
        case measure => simp [intOf]; omega
    · obtain rfl : k = n := by omega
      have hdd : decide (k < k) = false := by simp
      have hidx := idxD_none (l := l) (p := p) (fun j y hy => HI.out.1 j y (by rw [← Hl.out]; exact (List.getElem?_eq_some_iff.1 hy).1) hy)
      have Hidx := Lib.hid hidx
      clear hidx
      go_wp2_with fail
      go_ret
      refine ⟨?_, HI.out.2⟩
      unfold idxI
      rw [Hidx.out, if_pos rfl]; rfl

theorem deleteFunc_any (base : Nat) (v : Value) (n b : Nat) (l : List En) (p : Int) (w : World) (hown : w.ownsRow base 27 3 v n (enVs l)) (hn : n ≤ 1000000) (hb : BlkIs w b 3 #[.int .i64 p]) (hbase : base ≤ w.heap.size) :
    Calls Try.prog 43 #[v, .func (.func 44) #[] #[.pointer (some ⟨b, 0, none⟩)]] w fun x w' => ∃ v', x = .returned v' ∧ v'.ownBlock = v.ownBlock ∧
      w'.ownsRow base 27 3 v' (cutE l p).length (enVs (cutE l p)) ∧ w.grownBy w' v.ownBlock := by
  have hl : l.length = n := by have := hown.1; rw [enVs_length] at this; omega
  obtain ⟨A, c, rfl, hnc⟩ := own_slice hown
  have hix := indexFunc_any A n c w.heap.size b l p w (SlR.own hown) (Nat.le_refl _) hn hb
  by_cases hall : idxD l p = l.length
  · have hi : idxI l p = -1 := by unfold idxI; rw [if_pos hall]
    rw [hi] at hix
    have hcut : cutE l p = l := by
      rw [cutE_del, List.filter_eq_self]
      intro x hx
      have h3 := List.takeWhile_prefix (fun e => !delE p e) (l := l)
      have h4 := h3.eq_of_length hall
      rw [← h4] at hx
      exact List.all_eq_true.1 (List.all_takeWhile (p := fun e => !delE p e) (l := l)) x hx
    rw [hcut, hl]
    have Hown := Lib.hid hown; have Hix := Lib.hid hix
    clear hown hix hall hi hcut hl hb
    go_enter Try.func43, Try.ntmps43
    go_wp2_with fail
    refine Hix.out.mono ?_
    rintro e w1 ⟨rfl, hb1⟩
    go_wp2_with fail
    go_ret
    exact ⟨_, rfl, rfl, own_below Hown.out hb1 (fun q hq => (Hown.out.lt q hq).2), grown_belowC hb1⟩
  · have hlt0 : idxD l p < n := by have := idxD_le l p; omega
    have hi : idxI l p = (idxD l p : Nat) := by unfold idxI; rw [if_neg hall]
    rw [hi] at hix
    obtain ⟨hstart, hdel⟩ := idxD_split l p (by omega)
    obtain ⟨g, c', hv', hgb, hgl⟩ := hown.form (by omega)
    injection hv' with hv1 hv2 hv3
    subst hv1 hv3
    have hbg : b ≠ g := fun e => own_ne_blk hown hb (by decide) (by rw [e]; rfl)
    have Hown := Lib.hid hown; have Hix := Lib.hid hix; have Hb := Lib.hid hb; have Hl := Lib.hid hl; have Hst := Lib.hid hstart
    have hbl := hb.lt
    generalize idxD l p = i0 at hlt0 Hix Hst
    have h00 : 0 ≤ (i0 : Int) := by omega
    have h01 : (i0 : Int) ≤ 1000000 := by omega
    have h02 : ((i0 : Int) == -1) = false := by rw [beq_eq_false_iff_ne]; omega
    clear hown hix hall hi hstart hdel hl hb
    go_enter Try.func43, Try.ntmps43
    go_wp2_with fail
    refine Hix.out.mono ?_
    rintro e w1 ⟨rfl, hb1⟩
    have HO1 := Lib.hid (own_below Hown.out hb1 (fun q hq => (Hown.out.lt q hq).2))
    have hg1 : Hid (w.grownBy w1 (some g)) := Lib.hid (grown_belowC hb1)
    clear hb1
    go_wp2_with fail
    go_loopw [5, 6] (fun oi oj wr => ∃ (i j : Nat) (M : List En), oi = .int .i64 (i : Int) ∧ oj = .int .i64 (j : Int) ∧ i < j ∧ j ≤ n ∧ Hid (wr.ownsRow base 27 3 (.slice (some ⟨g, 0, none⟩) n c) n (enVs M) ∧ M.take i = cutE (l.take j) p ∧ M.drop j = l.drop j ∧ w.grownBy wr (some g))) (fun _ j _ => n - (intOf j).toNat)
    case atStart => exact ⟨i0, i0 + 1, l, rfl, by go_num, by omega, by omega, Lib.hid ⟨HO1.out, Hst.out.symm, rfl, hg1.out⟩⟩
    case round =>
      obtain ⟨i, j, M, rfl, rfl, hij, hj, HI⟩ := hrel
      have hj0 : 0 ≤ (j : Int) := by omega
      have hi0 : 0 ≤ (i : Int) := by omega
      have hMl : M.length = n := by have := HI.out.1.1; rw [enVs_length] at this; omega
      have hin : (i : Int) < (n : Int) := by omega
      have hin2 : (i : Int) ≤ (n : Int) := by omega
      have hic : (i : Int) ≤ (c : Int) := by omega
      have hgw := (HI.out.1.lt g rfl).2
      by_cases hlt : j < n
      · obtain ⟨x, hx⟩ : ∃ x, l[j]? = some x := ⟨_, List.getElem?_eq_getElem (by rw [Hl.out]; exact hlt)⟩
        have hMx : M[j]? = some x := by
          have := congrArg (fun q => q[0]?) HI.out.2.2.1
          simp only [List.getElem?_drop, Nat.add_zero] at this
          rw [this, hx]
        have hsn : cutE (l.take (j + 1)) p = cutE (l.take j) p ++ if delE p x = true then [] else [x] := by
          rw [cutE_del, cutE_del, filter_snoc _ l j x hx]
          cases delE p x <;> simp
        have hdr : M.drop (j + 1) = l.drop (j + 1) := by
          rw [← List.drop_drop, ← List.drop_drop, HI.out.2.2.1]
        have k0 := (HI.out.1.cellAt (j * 3) (by omega)).trans (enVs_get M j 0 _ hMx (by omega))
        have k1 := (HI.out.1.cellAt (j * 3 + 1) (by omega)).trans (enVs_get M j 1 _ hMx (by omega))
        have k2 := (HI.out.1.cellAt (j * 3 + 2) (by omega)).trans (enVs_get M j 2 _ hMx (by omega))
        have hbw := Hb.out.grown HI.out.2.2.2 (by simpa using hbg)
        have Hsn := Lib.hid hsn; have Hdr := Lib.hid hdr; have Hbw := Lib.hid hbw
        obtain ⟨x0, x1, x2⟩ := x
        simp [enC] at k0 k1 k2
        have hlt1 : (j : Int) < (n : Int) := by omega
        have hba : Below wr.heap.size wr (wr.alloc (.cells #[.int .i64 x0, .int .i64 x1, .int .i64 x2] 27)) := (Below.refl _ _).alloc (Nat.le_refl _) _
        have hcf := cutF_any (x0, x1, x2) p b (wr.alloc (.cells #[.int .i64 x0, .int .i64 x1, .int .i64 x2] 27)) (by simpa using (hbw.below hba hbw.lt).cell 0) (by have := hbw.lt; simp; omega)
        unfold enA at hcf
        dsimp only at hcf
        have hE := BlkIs.new wr 27 #[.int .i64 x0, .int .i64 x1, .int .i64 x2]
        have Hba := Lib.hid hba; have HE := Lib.hid hE
        clear hx hMx hsn hdr hbw hba hE
        cases hd : delE p (x0, x1, x2) with
        | true =>
          rw [hd] at hcf Hsn
          have Hcf := Lib.hid hcf
          clear hcf hd
          go_wp2_with fail
          refine Hcf.out.mono ?_
          rintro e w2 ⟨rfl, hb2⟩
          have hb3 := Hba.out.trans (hb2.mono Hba.out.size)
          have hfin : Hid (w2.ownsRow base 27 3 (.slice (some ⟨g, 0, none⟩) n c) n (enVs M) ∧ M.take i = cutE (l.take (j + 1)) p ∧ M.drop (j + 1) = l.drop (j + 1) ∧ w.grownBy w2 (some g)) := Lib.hid ⟨own_below HI.out.1 hb3 (fun q hq => (HI.out.1.lt q hq).2), by rw [Hsn.out, HI.out.2.1]; simp, Hdr.out, HI.out.2.2.2.trans (grown_belowC hb3)⟩
          clear hb2 hb3
          go_wp2_with fail
          go_roundw
          case rel => exact ⟨i, j + 1, M, rfl, by go_num, by omega, by omega, hfin⟩
          case measure => simp [intOf]; omega
        | false =>
          rw [hd] at hcf Hsn
          have Hcf := Lib.hid hcf
          clear hcf hd
          obtain ⟨y, hy⟩ : ∃ y, M[i]? = some y := ⟨_, List.getElem?_eq_getElem (by omega)⟩
          have Hy := Lib.hid hy
          clear hy
          go_wp2_with fail
          refine Hcf.out.mono ?_
          rintro e w2 ⟨rfl, hb2⟩
          have hb3 := Hba.out.trans (hb2.mono Hba.out.size)
          have hE2 := HE.out.below hb2 HE.out.lt
          have q := hE2.cell
          have q0 := q 0; have q1 := q 1; have q2 := q 2
          have hO2 := own_below HI.out.1 hb3 (fun q hq => (HI.out.1.lt q hq).2)
          have m0 := (hO2.cellAt (i * 3) (by omega)).trans (enVs_get M i 0 _ Hy.out (by omega))
          have m1 := (hO2.cellAt (i * 3 + 1) (by omega)).trans (enVs_get M i 1 _ Hy.out (by omega))
          have m2 := (hO2.cellAt (i * 3 + 2) (by omega)).trans (enVs_get M i 2 _ Hy.out (by omega))
          simp [enC] at m0 m1 m2
          have hfz := hO2.frozenAt
          have hset := own_setM (enC (x0, x1, x2)) (enVs M) (i * 3) w2 hO2
          rw [enVs_setC M i _ (by omega)] at hset
          have hfin : Hid ((w2.setCells g (i * 3) (enC (x0, x1, x2))).ownsRow base 27 3 (.slice (some ⟨g, 0, none⟩) n c) n (enVs (M.set i (x0, x1, x2))) ∧ (M.set i (x0, x1, x2)).take (i + 1) = cutE (l.take (j + 1)) p ∧ (M.set i (x0, x1, x2)).drop (j + 1) = l.drop (j + 1) ∧ w.grownBy (w2.setCells g (i * 3) (enC (x0, x1, x2))) (some g)) := Lib.hid ⟨hset.1, by
            rw [Hsn.out, ← HI.out.2.1, List.take_add_one, List.getElem?_set_self (by omega), List.take_set_of_le (Nat.le_refl _)]; rfl, by rw [List.drop_set_of_lt (by omega)]; exact Hdr.out, (HI.out.2.2.2.trans (grown_belowC hb3)).trans hset.2⟩
          have hi1 : (i : Int) ≤ 1000000 := by omega
          clear hb2 hb3 hE2 q hO2 hset k0 k1 k2
          go_wp2_with fail
          go_roundw
          case rel => exact ⟨i + 1, j + 1, _, by go_num, by go_num, by omega, by omega, hfin⟩
          case measure => simp [intOf]; omega
      · obtain rfl : j = n := by omega
        have hdd : decide (j < j) = false := by simp
        obtain ⟨zs, hzs⟩ : ∃ zs, zs = (Builtin.zeroCells (Value.agg #[.int .i64 0, .int .i64 0, .int .i64 0]).cells (j - i)).toList := ⟨_, rfl⟩
        have hzl : zs.length = (j - i) * 3 := by rw [hzs]; exact zeros_len _
        have hcl : ∀ ty cc, (Builtin.clear_ #[32] ty #[.slice (some ⟨g, i * 3, none⟩) (j - i) cc]).run Try.prog wr = .ok (.tuple #[]) (wr.setCells g (i * 3) zs) := fun ty cc =>
          run_clear_many wr _ _ ty _ Try.underlying32 zero_en zs (j - i) (by omega) hzs.symm (by rw [hzs]; exact zeros_one _) g (i * 3) cc
            (fun t ht => by
              have hl : i * 3 + t < (enVs M).length := by rw [enVs_length]; omega
              rw [HI.out.1.cellAt _ (by omega), List.getElem?_eq_getElem hl]; rfl) (fun t ht => HI.out.1.frozenAt _)
        have hset := own_setM zs (enVs M) (i * 3) wr HI.out.1
        have hsh := own_short (m := i) hset.1 (by omega)
        rw [setM_eq _ _ _ (by rw [enVs_length, hzl]; omega), List.append_assoc, List.take_left' (by rw [List.length_take, enVs_length]; omega), enVs_take, HI.out.2.1, List.take_of_length_le (Nat.le_of_eq Hl.out)] at hsh
        have hcutl : (cutE l p).length = i := by
          have := hsh.1
          rw [enVs_length] at this; omega
        have hfin := Lib.hid (And.intro hsh (HI.out.2.2.2.trans hset.2))
        have Hcutl := Lib.hid hcutl
        clear hzs hzl hset hsh hcutl
        go_wp2_with fail
        go_ret
        exact ⟨_, rfl, rfl, by rw [Hcutl.out]; exact hfin.out.1, hfin.out.2⟩

theorem cutE_le (l : List En) (p : Int) : (cutE l p).length ≤ l.length := List.length_filter_le _ _
theorem cut_any (base T : Nat) (r : Option Nat) (l : List En) (p : Int) (w : World) (ht : TabIs w base T r l) (hbase : base ≤ w.heap.size) (hn : l.length ≤ 1000000) :
    Calls Try.prog 28 #[.pointer (some ⟨T, 0, none⟩), .int .i64 p] w fun x w' => x = .returned (.int .i64 ((l.length : Int) - ((cutE l p).length : Int))) ∧ TabIs w' base T r (cutE l p) ∧ TabStep w w' T r r := by
  have hlc := cutE_le l p
  have hb0 : Below w.heap.size w (w.alloc (.cells #[.int .i64 p] 3)) := (Below.refl _ _).alloc (Nat.le_refl _) _
  obtain ⟨W0, hW0⟩ : ∃ V, w.alloc (.cells #[.int .i64 p] 3) = V := ⟨_, rfl⟩
  rw [hW0] at hb0
  have hP : BlkIs W0 w.heap.size 3 #[.int .i64 p] := by rw [← hW0]; exact BlkIs.new _ _ _
  have ht0 := ht.below hb0
  obtain ⟨v, hB, hown, hvr, hrT⟩ := ht0
  obtain ⟨A, c, rfl, hnc⟩ := own_slice hown
  have hc0 := hB.cell 0
  simp at hc0
  have hf0 := hB.free 0
  have hdf := deleteFunc_any base _ l.length w.heap.size l p W0 hown hn hP (Nat.le_trans hbase hb0.size)
  have HB := Lib.hid hB; have Hown := Lib.hid hown; have Hvr := Lib.hid hvr; have HrT := Lib.hid hrT; have Hb0 := Lib.hid hb0; have HW0 := Lib.hid hW0; have Hdf := Lib.hid hdf
  have hT : T < W0.heap.size := hB.lt
  clear ht hB hown hvr hrT hb0 hP hdf
  go_enter Try.func28, Try.ntmps28
  go_wp2_with fail
  (try rw [hW0])
  refine Hdf.out.mono ?_
  rintro e w1 ⟨v', rfl, hvb, hown1, hg1⟩
  obtain ⟨A1, c1, rfl, hnc1⟩ := own_slice hown1
  have hneT : (Value.slice A l.length c).ownBlock ≠ some T := fun e => HrT.out (Hvr.out.symm.trans e)
  have hB1 := HB.out.grown hg1 (Ne.symm hneT)
  have hd0 := hB1.cell 0
  simp at hd0
  have hd1 := hB1.free 0
  have HB1 := Lib.hid hB1; have Hown1 := Lib.hid hown1; have Hg1 := Lib.hid hg1; have Hvb := Lib.hid hvb; have HneT := Lib.hid hneT
  have hTl := hB1.lt
  clear hc0 hf0 hB1 hown1 hg1 hvb hW0 hneT
  go_wp2_with fail
  go_ret
  have hr1 : (Value.slice A1 (cutE l p).length c1).ownBlock = r := Hvb.out.trans Hvr.out
  refine ⟨rfl, ⟨_, HB1.out.put 0 _, own_far (a := ⟨T, 0, none⟩) Hown1.out (by rw [Hvb.out]; exact HneT.out) _, hr1, HrT.out⟩, ⟨Hg1.out.os.trans Hb0.out.os, Hg1.out.tape.trans Hb0.out.tape, Hg1.out.output.trans Hb0.out.output, Nat.le_trans Hb0.out.size (by simpa [World.setCell] using Hg1.out.size), fun k hk h1 h2 => ?_, .inl rfl⟩⟩
  rw [Below.heap_setCell _ _ _ _ (by exact h1)]
  exact (Hg1.out.block k (Nat.lt_of_lt_of_le hk Hb0.out.size) (by rw [Hvr.out]; exact h2)).trans (Hb0.out.block k hk)
end Go.Proofs.Ytfjilngofdahgaa
