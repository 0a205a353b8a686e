/- What a call may have changed, block by block; rows whose cells are set; packets as values. No program here. -/
import Derived.Test.YtadhboioaacaeaaGreatJWireTells1
import Derived.Laws.OwnMore
import Derived.Lib.SliceRun
import Derived.Deep.RegionLaw
import Derived.Maps.OwnSet

namespace Go.Proofs.YtadhboioaacaeaaGreat
open Go.RowKit

/-- of the blocks that were there just those of S may have been written -/
structure Chg (S : Nat → Prop) (w w' : World) : Prop where
  os : w'.os = w.os
  tape : w'.tape = w.tape
  output : w'.output = w.output
  size : w.heap.size ≤ w'.heap.size
  block : ∀ k, k < w.heap.size → ¬ S k → w'.heap[k]? = w.heap[k]?

section
variable {S T : Nat → Prop} {w w' w'' : World}
theorem Chg.refl (S : Nat → Prop) (w : World) : Chg S w w := ⟨rfl, rfl, rfl, Nat.le_refl _, fun _ _ _ => rfl⟩
theorem Chg.trans (h : Chg S w w') (h2 : Chg T w' w'') (hT : ∀ k, k < w.heap.size → T k → S k) : Chg S w w'' :=
  ⟨h2.os.trans h.os, h2.tape.trans h.tape, h2.output.trans h.output, Nat.le_trans h.size h2.size, fun k hk hn => (h2.block k (Nat.lt_of_lt_of_le hk h.size) (fun ht => hn (hT k hk ht))).trans (h.block k hk hn)⟩
theorem Chg.more (h : Chg S w w') (hT : ∀ k, k < w.heap.size → S k → T k) : Chg T w w' := ⟨h.os, h.tape, h.output, h.size, fun k hk hn => h.block k hk (fun hs => hn (hT k hk hs))⟩
theorem Chg.drew (h : Chg S w w') : Chg S w w'.drew := ⟨h.os, h.tape, h.output, h.size, h.block⟩
theorem Chg.drewN (h : Chg S w w') (n : Nat) : Chg S w (w'.drewN n) := ⟨h.os, h.tape, h.output, h.size, h.block⟩
theorem Chg.undrew (h : Chg S w.drew w') : Chg S w w' := ⟨h.os, h.tape, h.output, h.size, h.block⟩
theorem Chg.alloc (h : Chg S w w') (o : Obj) : Chg S w (w'.alloc o) :=
  ⟨h.os, h.tape, h.output, Nat.le_trans h.size (by simp), fun k hk hn => (Below.heap_alloc _ _ _ (Nat.lt_of_lt_of_le hk h.size)).trans (h.block k hk hn)⟩
theorem Chg.set (h : Chg S w w') {a : Addr} (ha : a.block < w.heap.size → S a.block) (u : Value) : Chg S w (w'.setCell a u) :=
  ⟨h.os, h.tape, h.output, by simpa [World.setCell] using h.size, fun k hk hn => (Below.heap_setCell _ _ _ _ (fun e => hn (by subst e; exact ha hk))).trans (h.block k hk hn)⟩
theorem Chg.grown (h : Chg S w w') {row : Option Nat} (hg : w'.grownBy w'' row) (hr : ∀ k, row = some k → k < w.heap.size → S k) : Chg S w w'' :=
  ⟨hg.os.trans h.os, hg.tape.trans h.tape, hg.output.trans h.output, Nat.le_trans h.size hg.size, fun k hk hn =>
    (hg.block k (Nat.lt_of_lt_of_le hk h.size) (fun e => hn (hr k e.symm hk))).trans (h.block k hk hn)⟩
theorem Chg.under {B : Nat} (h : Chg S w w') (hb : Below B w' w'') (hB : w.heap.size ≤ B) : Chg S w w'' :=
  ⟨hb.os.trans h.os, hb.tape.trans h.tape, hb.output.trans h.output, Nat.le_trans h.size hb.size, fun k hk hn => (hb.block k (Nat.lt_of_lt_of_le hk hB)).trans (h.block k hk hn)⟩
theorem Chg.of_below (hb : Below w.heap.size w w') : Chg S w w' := ⟨hb.os, hb.tape, hb.output, hb.size, fun k hk _ => hb.block k hk⟩
theorem Chg.below {B : Nat} (h : Chg S w w') (hS : ∀ k, S k → B ≤ k) (hB : B ≤ w.heap.size) : Below B w w' :=
  ⟨h.os, h.tape, h.output, h.size, fun k hk => h.block k (by omega) (fun hs => by have := hS k hs; omega)⟩
theorem BlkIs.chg {g : Nat} {t : TypeId} {cs : Array Value} (h : BlkIs w g t cs) (hc : Chg S w w') (hg : ¬ S g) : BlkIs w' g t cs := (hc.block g h.lt hg).trans h
theorem own_chg {base : Nat} {e : TypeId} {size n : Nat} {v : Value} {xs : List Value} (h : w.ownsRow base e size v n xs) (hc : Chg S w w') (hv : ∀ k, v.ownBlock = some k → ¬ S k) : w'.ownsRow base e size v n xs := by
  have hlt := h.lt
  refine ⟨h.1, ?_⟩
  rcases h.2 with h0 | ⟨g', cap, cur, hvv, hbg, hh, rest⟩
  · exact .inl h0
  · have hk : v.ownBlock = some g' := by rw [hvv]; rfl
    exact .inr ⟨g', cap, cur, hvv, hbg, (hc.block g' (hlt g' hk).2 (hv g' hk)).trans hh, rest⟩
theorem map_chg {H : Type} {P : Program} {k : TypeId} {R : Value → Option (DataW H × List MemPlace)} {b n : Nat} {D : DataW H} (h : w.ownsMap P k R b n D) (hc : Chg S w w') (hb : ¬ S b) : w'.ownsMap P k R b n D := by
  have hlt := h.lt
  obtain ⟨es, clock, hh, F, hs, hD⟩ := h
  exact ⟨es, clock, (hc.block b hlt hb).trans hh, F, hs, hD⟩
theorem SlR.chg {B size n : Nat} {A : Option Addr} {xs : List Value} (h : SlR w B size A n xs) (hB : B ≤ w.heap.size) (hc : Chg S w w') (hS : ∀ ad, A = some ad → ¬ S ad.block) : SlR w' B size A n xs :=
  ⟨h.len, fun hn => by
    obtain ⟨ad, e, hb, hcell⟩ := h.cells hn
    refine ⟨ad, e, hb, fun j u hu => ?_⟩
    have hblk := hc.block ad.block (by omega) (hS ad e)
    rw [← hcell j u hu]
    exact World.cell?_of_block (by rw [add_block]; exact hblk)⟩
theorem own_ne_map {H : Type} {P : Program} {k e : TypeId} {R : Value → Option (DataW H × List MemPlace)} {b n m size base : Nat} {D : DataW H} {v : Value} {xs : List Value} (h : w.ownsMap P k R b n D) (ho : w.ownsRow base e size v m xs) : v.ownBlock ≠ some b := by
  intro hv
  obtain ⟨es, clock, hh, _⟩ := h
  rcases ho.2 with ⟨rfl, _⟩ | ⟨g', cap, cur, rfl, _, hg, _⟩
  · simp [Value.ownBlock] at hv
  · obtain rfl : g' = b := by simpa [Value.ownBlock] using hv
    rw [hh] at hg
    injection hg with hg
    cases hg
theorem blk_ne_map {H : Type} {P : Program} {k t : TypeId} {R : Value → Option (DataW H × List MemPlace)} {b n g : Nat} {D : DataW H} {cs : Array Value} (h : w.ownsMap P k R b n D) (ho : BlkIs w g t cs) : g ≠ b := by
  rintro rfl
  obtain ⟨es, clock, hh, _⟩ := h
  unfold BlkIs at ho
  rw [hh] at ho
  injection ho with ho
  cases ho
end

/-! ### cells of a row set one by one -/
/-- a list with the cells from o on set -/
def setL (xs : List Value) : Nat → List Value → List Value
  | _, [] => xs
  | o, v :: r => setL (xs.set o v) (o + 1) r
theorem setL_eq : ∀ (r xs : List Value) (o : Nat), o + r.length ≤ xs.length → setL xs o r = xs.take o ++ r ++ xs.drop (o + r.length)
  | [], xs, o, _ => by simp [setL]
  | v :: r, xs, o, h => by
    simp only [List.length_cons] at h
    rw [setL, setL_eq r (xs.set o v) (o + 1) (by simp; omega)]
    simp only [List.length_cons]
    rw [List.drop_set_of_lt (by omega), show o + 1 + r.length = o + (r.length + 1) from by omega]
    have : (xs.set o v).take (o + 1) = xs.take o ++ [v] := by
      rw [List.take_add_one, List.take_set_of_le (Nat.le_refl _), List.getElem?_set_self (by omega)]; rfl
    rw [this]
    simp
theorem setL_length : ∀ (r xs : List Value) (o : Nat), (setL xs o r).length = xs.length
  | [], xs, o => rfl
  | v :: r, xs, o => by rw [setL, setL_length r]; simp
theorem own_cells {w : World} {base : Nat} {e : TypeId} {size g n cap : Nat} : ∀ (r xs : List Value) (o : Nat) (w : World), w.ownsRow base e size (.slice (some ⟨g, 0, none⟩) n cap) n xs →
    (w.setCells g o r).ownsRow base e size (.slice (some ⟨g, 0, none⟩) n cap) n (setL xs o r) ∧ w.grownBy (w.setCells g o r) (some g)
  | [], xs, o, w, h => ⟨h, World.grownBy.refl w _⟩
  | v :: r, xs, o, w, h => by
    obtain ⟨h1, h2⟩ := h.stored o v
    obtain ⟨h3, h4⟩ := own_cells (w := w) r (xs.set o v) (o + 1) _ h1
    refine ⟨h3, ⟨h4.os.trans h2.os, h4.tape.trans h2.tape, h4.output.trans h2.output, Nat.le_trans h2.size h4.size, fun k hk hn => (h4.block k (Nat.lt_of_lt_of_le hk h2.size) hn).trans (h2.block k hk hn)⟩⟩
/-- the first m elements of an own row, cut shorter -/
theorem own_short {w : World} {base : Nat} {e : TypeId} {size g n m cap : Nat} {xs : List Value} (h : w.ownsRow base e size (.slice (some ⟨g, 0, none⟩) n cap) n xs) (hm : m ≤ n) :
    w.ownsRow base e size (.slice (some ⟨g, 0, none⟩) m cap) m (xs.take (m * size)) := by
  have hms : m * size ≤ n * size := Nat.mul_le_mul_right _ hm
  refine ⟨by rw [List.length_take, h.1, Nat.min_eq_left hms], ?_⟩
  rcases h.2 with ⟨h', _⟩ | ⟨g', cap', cur, h', hb, hg, hnc, hcm, hcs, htake⟩
  · simp at h'
  · simp only [Value.slice.injEq, Option.some.injEq, Addr.mk.injEq, and_true, true_and] at h'
    obtain ⟨rfl, rfl⟩ := h'
    exact .inr ⟨g, cap, cur, rfl, hb, hg, by omega, hcm, hcs, by rw [← htake, List.take_take, Nat.min_eq_left hms]⟩

/-! ### packets -/
abbrev Pk := Int × Int × ByteArray
/-- a packet's cells -/
def pkC (p : Pk) : List Value := [.int .i64 p.1, .int .i64 p.2.1, .string p.2.2]
/-- packets' cells, one behind the other -/
def pkVs (ps : List Pk) : List Value := ps.flatMap pkC
theorem pkVs_nil : pkVs [] = [] := rfl
theorem pkVs_cons (p : Pk) (ps : List Pk) : pkVs (p :: ps) = pkC p ++ pkVs ps := rfl
theorem pkVs_append (ps qs : List Pk) : pkVs (ps ++ qs) = pkVs ps ++ pkVs qs := by simp [pkVs]
theorem pkVs_length (ps : List Pk) : (pkVs ps).length = ps.length * 3 := by
  induction ps with
  | nil => rfl
  | cons p ps ih => rw [pkVs_cons, List.length_append, ih, List.length_cons]; simp [pkC]; omega
theorem pkVs_drop (ps : List Pk) (k : Nat) : (pkVs ps).drop (k * 3) = pkVs (ps.drop k) := by
  induction ps generalizing k with
  | nil => simp [pkVs]
  | cons p ps ih =>
    cases k with
    | zero => simp
    | succ k =>
      rw [pkVs_cons, List.drop_succ_cons, ← ih k, show (k + 1) * 3 = (pkC p).length + k * 3 from by simp [pkC]; omega, ← List.drop_drop, List.drop_left' rfl]
theorem pkVs_take (ps : List Pk) (k : Nat) : (pkVs ps).take (k * 3) = pkVs (ps.take k) := by
  by_cases h : k ≤ ps.length
  · conv => lhs; rw [← List.take_append_drop k ps]
    rw [pkVs_append, List.take_left']
    rw [pkVs_length, List.length_take]; omega
  · rw [List.take_of_length_le (by rw [pkVs_length]; omega), List.take_of_length_le (by omega)]
theorem pkVs_get (ps : List Pk) (k j : Nat) (p : Pk) (h : ps[k]? = some p) (hj : j < 3) : (pkVs ps)[k * 3 + j]? = (pkC p)[j]? := by
  have h1 : (pkVs ps)[k * 3 + j]? = ((pkVs ps).drop (k * 3))[j]? := by rw [List.getElem?_drop]
  obtain ⟨hk, hp⟩ := List.getElem?_eq_some_iff.1 h
  rw [h1, pkVs_drop, List.drop_eq_getElem_cons hk, hp, pkVs_cons, List.getElem?_append_left (by simpa [pkC] using hj)]
theorem pkC_one (p : Pk) : ∀ u ∈ pkC p, u.oneCell' = true := by simp [pkC, Value.oneCell']
theorem pkVs_one (ps : List Pk) : ∀ u ∈ pkVs ps, u.oneCell' = true := by
  intro u hu
  obtain ⟨p, _, h⟩ := List.mem_flatMap.1 hu
  exact pkC_one p u h
theorem pkVs_set (ps : List Pk) (k : Nat) (p : Pk) (hk : k < ps.length) : setL (pkVs ps) (k * 3) (pkC p) = pkVs (ps.set k p) := by
  rw [setL_eq _ _ _ (by rw [pkVs_length]; simp [pkC]; omega), List.set_eq_take_append_cons_drop, if_pos hk, pkVs_append, pkVs_cons, pkVs_take, ← pkVs_drop, List.append_assoc]
  rw [show k * 3 + (pkC p).length = (k + 1) * 3 from by simp [pkC]; omega]

/-- 'clear' of one packet -/
theorem run_clear_pk {P : Program} (w : World) (t e ty : TypeId) (z : Value) (ht : P.underlying t = some (.slice e)) (hv : ∀ w, (zeroValue e).run P w = .ok z w) (zs : List Value) (hz : z.cells.toList = zs) (hl : 0 < zs.length)
    (h1 : ∀ v ∈ zs, v.oneCell' = true) (b o c : Nat)
    (hc : ∀ j, j < zs.length → (w.cell? ⟨b, o + j, none⟩).isSome = true) (hf : ∀ j, j < zs.length → w.frozen? ⟨b, o + j, none⟩ = false) :
    (Builtin.clear_ #[t] ty #[.slice (some ⟨b, o, none⟩) 1 c]).run P w = .ok (.tuple #[]) (w.setCells b o zs) := by
  have hzc : (Builtin.zeroCells z.cells 1).toList = zs := by
    rw [← hz]
    have hs : 0 < z.cells.size := by rw [← Array.length_toList, hz]; exact hl
    apply List.ext_getElem
    · simp [Builtin.zeroCells]
    · intro i h1 h2
      have : i < z.cells.size := by simpa using h2
      simp [Builtin.zeroCells, Nat.mod_eq_of_lt this, this]
  have hst := run_storeCells_cells (P := P) b o zs 0 w (by simpa using hc) (by simpa using hf) h1
  simp only [Nat.add_zero] at hst
  simp [Builtin.clear_, run_underlying ht, hv, hzc, hst]

/-! ### steps of a region that draws its order -/
section
variable {P : Program} {ops : Array Oper} {o : Oper} {a : Act} {w : World} {K : Act → World → Prop} {Q : Exit → Act → World → Prop} {E : Prop} {H : Type}
theorem step_delete_own (hg : o.guard = none) (m x : Operand) (t k : TypeId) (hop : o.op = Op.call { callee := Callee.builtin Builtin.delete, args := #[m, x], argTypes := #[t, k] })
    (e : TypeId) (KK : Maps.Keyed P k) (ht : P.underlying t = some (.map k e)) (R : Value → Option (DataW H × List MemPlace)) (b n : Nat) (D : DataW H)
    (hm : a.eval m = .map (some b)) (hown : w.ownsMap P k R b n D) (key : Value) (kl : Lit) (hx : a.eval x = key) (hkey : keyOf P k key = some kl)
    (hK : ∀ w', w'.ownsMap P k R b n (D.del kl) → w.mapTurned w' b → K (a.put o.dst (.tuple #[])) w') :
    if Region.wanted o (yielded ops a.tmps) = true then Oper.wp P o a w K Q else E := by
  have hw : Region.wanted o (yielded ops a.tmps) = true := by simp [Region.wanted, hg]
  rw [if_pos hw]
  obtain ⟨w', hrun, r1, r2⟩ := hown.drop KK ht hkey o.type
  unfold Oper.wp
  simp [execOp, hop, resolve, invoke, builtin, hm, hx, hrun, Result.andThen]
  exact hK w' r1 r2
end
end Go.Proofs.YtadhboioaacaeaaGreat
