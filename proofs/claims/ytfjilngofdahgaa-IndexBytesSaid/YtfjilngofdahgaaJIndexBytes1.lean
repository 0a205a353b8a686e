/- Memory: blocks known whole; a slice that reads as a list; what a call may have changed. No program here. -/
import Derived.WalkKit
import Derived.WalkSpells
import Derived.WalkLawsBesides
import Derived.Lib.Hide
import Derived.Deep.Draws
import Derived.Deep.AppendLies
import Derived.Maps.AppendAt
import Derived.Laws.OwnMore

namespace Go.Proofs.Ytfjilngofdahgaa
open Go.RowKit

/-- a byte as a value -/
def byteV (c : UInt8) : Value := .int .u8 (c.toNat : Int)

/-- block g holds just the cells cs of element type t, none of them frozen -/
def BlkIs (w : World) (g : Nat) (t : TypeId) (cs : Array Value) : Prop := w.heap[g]? = some (.cells cs t (0, 0))

section
variable {w w' : World} {g : Nat} {t : TypeId} {cs : Array Value}
theorem BlkIs.lt (h : BlkIs w g t cs) : g < w.heap.size := (Array.getElem?_eq_some_iff.1 h).1
theorem BlkIs.cell (h : BlkIs w g t cs) (i : Nat) : w.cell? ⟨g, i, none⟩ = cs[i]? := cell_of_row w g i cs t (0, 0) h
theorem BlkIs.free (h : BlkIs w g t cs) (i : Nat) : w.frozen? ⟨g, i, none⟩ = false := by
  unfold BlkIs at h
  simp [World.frozen?, h]
theorem BlkIs.new (w : World) (t : TypeId) (cs : Array Value) : BlkIs (w.alloc (.cells cs t)) w.heap.size t cs := heap_alloc_new w _
theorem BlkIs.drew (h : BlkIs w g t cs) : BlkIs w.drew g t cs := h
theorem BlkIs.drewN (h : BlkIs w g t cs) (n : Nat) : BlkIs (w.drewN n) g t cs := h
theorem BlkIs.alloc (h : BlkIs w g t cs) (o : Obj) : BlkIs (w.alloc o) g t cs := (Below.heap_alloc w o g h.lt).trans h
theorem BlkIs.put (h : BlkIs w g t cs) (i : Nat) (u : Value) : BlkIs (w.setCell ⟨g, i, none⟩ u) g t (cs.setIfInBounds i u) := by
  unfold BlkIs at h ⊢
  simp [World.setCell, Array.getElem?_modify, h]
theorem BlkIs.far (h : BlkIs w g t cs) {p : Addr} (hp : g ≠ p.block) (u : Value) : BlkIs (w.setCell p u) g t cs := (Below.heap_setCell w p u g hp).trans h
theorem BlkIs.below {B : Nat} (h : BlkIs w g t cs) (hb : Below B w w') (hg : g < B) : BlkIs w' g t cs := (hb.block g hg).trans h
theorem BlkIs.grown {row : Option Nat} (h : BlkIs w g t cs) (hb : w.grownBy w' row) (hg : some g ≠ row) : BlkIs w' g t cs := (hb.block g h.lt hg).trans h
theorem own_ne_blk {base : Nat} {e : TypeId} {size n : Nat} {v : Value} {xs : List Value} (h : w.ownsRow base e size v n xs) (hg : BlkIs w g t cs) (hne : e ≠ t) : v.ownBlock ≠ some g := by
  intro he
  rcases h.2 with ⟨rfl, _⟩ | ⟨g', cap, cur, rfl, _, hh, _⟩
  · simp [Value.ownBlock] at he
  · obtain rfl : g' = g := by simpa [Value.ownBlock] using he
    unfold BlkIs at hg
    rw [hg] at hh
    injection hh with hh
    injection hh with _ ht
    exact hne ht.symm
theorem own_below {B base : Nat} {e : TypeId} {size n : Nat} {v : Value} {xs : List Value} (h : w.ownsRow base e size v n xs) (hb : Below B w w') (hB : ∀ k, v.ownBlock = some k → k < B) : w'.ownsRow base e size v n xs := by
  refine ⟨h.1, ?_⟩
  rcases h.2 with h0 | ⟨g', cap, cur, hv, hbg, hh, rest⟩
  · exact .inl h0
  · exact .inr ⟨g', cap, cur, hv, hbg, (hb.block g' (hB g' (by rw [hv]; rfl))).trans hh, rest⟩
theorem own_drewN {base : Nat} {e : TypeId} {size n : Nat} {v : Value} {xs : List Value} (h : w.ownsRow base e size v n xs) (k : Nat) : (w.drewN k).ownsRow base e size v n xs := h
theorem own_drew {base : Nat} {e : TypeId} {size n : Nat} {v : Value} {xs : List Value} (h : w.ownsRow base e size v n xs) : w.drew.ownsRow base e size v n xs := h
theorem own_far {base : Nat} {e : TypeId} {size n : Nat} {v : Value} {xs : List Value} (h : w.ownsRow base e size v n xs) {a : Addr} (ha : v.ownBlock ≠ some a.block) (u : Value) : (w.setCell a u).ownsRow base e size v n xs := by
  refine ⟨h.1, ?_⟩
  rcases h.2 with h0 | ⟨g', cap, cur, hv, hbg, hh, rest⟩
  · exact .inl h0
  · refine .inr ⟨g', cap, cur, hv, hbg, ?_, rest⟩
    rw [Below.heap_setCell _ _ _ _ (fun e => ha (by rw [hv]; simp [Value.ownBlock, e]))]
    exact hh
theorem below_drewN {B : Nat} {a w : World} (h : Below B a w) (n : Nat) : Below B a (w.drewN n) := ⟨h.os, h.tape, h.output, h.size, h.block⟩
theorem below_undrew {B : Nat} {a w : World} (h : Below B a.drew w) : Below B a w := ⟨h.os, h.tape, h.output, h.size, h.block⟩
theorem below_undrewN {B n : Nat} {a w : World} (h : Below B (a.drewN n) w) : Below B a w := ⟨h.os, h.tape, h.output, h.size, h.block⟩
theorem below_sees {W w1 : World} {B : Nat} (hb : Below B W w1) : (∀ b o, b < B → w1.cell? ⟨b, o, none⟩ = W.cell? ⟨b, o, none⟩) ∧ (∀ b o, b < B → w1.frozen? ⟨b, o, none⟩ = W.frozen? ⟨b, o, none⟩) :=
  ⟨fun b o h => hb.cell (p := ⟨b, o, none⟩) h, fun b o h => hb.frozen (p := ⟨b, o, none⟩) h⟩
end

/-! ### strings as lists of bytes -/
theorem str_ext {s t : ByteArray} (h : s.data.toList = t.data.toList) : s = t := by
  apply ByteArray.ext; exact Array.ext' h
theorem str_mk {s : ByteArray} {l : List UInt8} (h : s.data.toList = l) : s = ⟨l.toArray⟩ := str_ext (by simpa using h)
theorem str_cut (s : ByteArray) (a b : Nat) : s.extract a b = ⟨((s.data.toList.drop a).take (b - a)).toArray⟩ := str_mk (by simp)
theorem str_from (s : ByteArray) (a : Nat) : s.extract a s.size = ⟨(s.data.toList.drop a).toArray⟩ := str_mk (by
  have : s.size = s.data.toList.length := by simp
  simp only [ByteArray.data_extract, Array.toList_extract, List.extract_eq_take_drop]
  exact List.take_of_length_le (by rw [List.length_drop]; omega))
theorem str_to (s : ByteArray) (b : Nat) : s.extract 0 b = ⟨(s.data.toList.take b).toArray⟩ := str_mk (by simp)
theorem str_append (l : List UInt8) (s : ByteArray) : (⟨l.toArray⟩ ++ s : ByteArray) = ⟨(l ++ s.data.toList).toArray⟩ := by
  apply ByteArray.ext; simp
theorem size_mk (l : List UInt8) : (⟨l.toArray⟩ : ByteArray).size = l.length := by simp [ByteArray.size]
theorem size_list (s : ByteArray) : s.size = s.data.toList.length := by simp
theorem take_rest (l : List UInt8) (s : ByteArray) (h : l = s.data.toList) (a : Nat) : List.take (s.size - a) (List.drop a l) = List.drop a l := by
  subst h
  rw [size_list]
  exact List.take_of_length_le (by simp)
/-! ### bytes of the call's own as a string -/
theorem strOfNums_bytes (bs : List UInt8) : strOfNums (bs.map fun c => (c.toNat : Int)) = ⟨bs.toArray⟩ := by
  have : (fun n : Int => UInt8.ofNat n.toNat) ∘ (fun c : UInt8 => (c.toNat : Int)) = id := by
    funext c; simp
  simp [strOfNums, this]
theorem run_str_own {P : Program} (w : World) (src dst e : TypeId) (hs : P.underlying src = some (.slice e)) (he : P.underlying e = some (.int .u8)) (hd : P.underlying dst = some .string)
    (base : Nat) (v : Value) (bs : List UInt8) (h : w.ownsRow base e 1 v bs.length (bs.map byteV)) : (convert src dst v).run P w = .ok (.string ⟨bs.toArray⟩) w := by
  rcases h.2 with ⟨rfl, hn⟩ | ⟨g, cap, cur, rfl, _⟩
  · have : bs = [] := List.eq_nil_of_length_eq_zero hn
    subst this
    exact run_convert_bytes_nil w src e hs he 0 0 dst hd
  · rw [run_convert_bytes_arg w src e hs he g 0 bs.length cap (bs.map fun c => (c.toNat : Int)) (by simp) (fun i hi => ?_) dst hd, strOfNums_bytes]
    have := h.cells (g := g) rfl i (byteV bs[i]) (by simp [hi])
    rw [show (⟨g, 0 + i, none⟩ : Addr) = (⟨g, 0, none⟩ : Addr).add i from by unfold Addr.add; split <;> simp_all]
    rw [this]
    simp [byteV, hi]

/-! ### numbers as bytes, the highest first -/
/-- byte i (counted from the lowest) of n -/
def byteAt (n i : Nat) : UInt8 := UInt8.ofNat (n / 256 ^ i)
/-- the k lowest bytes of n, the highest first -/
def beBytes : Nat → Nat → List UInt8
  | 0, _ => []
  | k + 1, n => byteAt n k :: beBytes k n
theorem beBytes_length (k n : Nat) : (beBytes k n).length = k := by induction k with
  | zero => rfl
  | succ k ih => simp [beBytes, ih]
theorem beBytes_get (k n j : Nat) (h : j < k) : (beBytes k n)[j]? = some (byteAt n (k - 1 - j)) := by
  induction k generalizing j with
  | zero => omega
  | succ k ih =>
    cases j with
    | zero => simp [beBytes]
    | succ j => simp only [beBytes, List.getElem?_cons_succ]; rw [ih j (by omega)]; congr 2; omega
theorem beBytes_take (k n j : Nat) (h : j < k) : (beBytes k n).take (j + 1) = (beBytes k n).take j ++ [byteAt n (k - 1 - j)] := by
  rw [List.take_add_one, beBytes_get k n j h]; rfl
theorem byteAt_toNat (n i : Nat) : (byteAt n i).toNat = n / 256 ^ i % 256 := by simp [byteAt]
theorem byte_shift (n m : Nat) : IntKind.u8.wrap ((n : Int) / 2 ^ (8 * (m : Int)).toNat) = ((byteAt n m).toNat : Int) := by
  rw [show (8 * (m : Int)).toNat = 8 * m from by omega, byteAt_toNat, IntKind.wrap_u8]
  have e : (2 : Int) ^ (8 * m) = ((256 ^ m : Nat) : Int) := by
    rw [show (256 : Nat) = 2 ^ 8 from rfl, ← Nat.pow_mul]
    exact (Int.natCast_pow 2 (8 * m)).symm
  rw [e]
  exact congrArg (fun x : Int => x % 256) (Int.natCast_ediv n (256 ^ m)).symm
end Go.Proofs.Ytfjilngofdahgaa

/- Entries in order: plain functions, and their laws. No program here. -/
namespace Go.Proofs.Ytfjilngofdahgaa
set_option linter.unusedVariables false

/-- an entry: hash, version, place -/
abbrev En := Int × Int × Int
def ltE (a b : En) : Bool := decide (a.1 < b.1 ∨ a.1 = b.1 ∧ (a.2.1 < b.2.1 ∨ a.2.1 = b.2.1 ∧ a.2.2 < b.2.2))
def okE (e : En) : Bool := decide (0 ≤ e.1 ∧ 0 ≤ e.2.1 ∧ 0 ≤ e.2.2)
def SortedE (l : List En) : Prop := l.Pairwise fun a b => ltE a b = true
/-- how many stand ahead -/
def rankE : List En → En → Nat
  | [], _ => 0
  | x :: l, e => if ltE x e = true then rankE l e + 1 else 0
def hasE (l : List En) (e : En) : Bool := decide (l[rankE l e]? = some e)
/-- is an entry new to a list? -/
def newE (l : List En) (e : En) : Bool := !hasE l e && okE e
def insE (l : List En) (e : En) : List En := if newE l e = true then l.take (rankE l e) ++ e :: l.drop (rankE l e) else l

theorem ltE_irrefl (a : En) : ltE a a = false := by unfold ltE; rw [decide_eq_false_iff_not]; omega
theorem ltE_trans {a b c : En} (h1 : ltE a b = true) (h2 : ltE b c = true) : ltE a c = true := by
  unfold ltE at *; rw [decide_eq_true_iff] at *; omega
theorem ltE_asymm {a b : En} (h1 : ltE a b = true) : ltE b a = false := by
  unfold ltE at *; rw [decide_eq_true_iff] at h1; rw [decide_eq_false_iff_not]; omega
theorem ltE_total (a b : En) : ltE a b = true ∨ a = b ∨ ltE b a = true := by
  obtain ⟨a1, a2, a3⟩ := a; obtain ⟨b1, b2, b3⟩ := b
  unfold ltE; simp only [decide_eq_true_iff, Prod.mk.injEq]; omega

theorem rank_le (l : List En) (e : En) : rankE l e ≤ l.length := by
  induction l with
  | nil => exact Nat.le_refl _
  | cons x l ih => unfold rankE; split
                   · simpa using ih
                   · exact Nat.zero_le _
theorem rank_lt {l : List En} (hs : SortedE l) (e : En) : ∀ {i : Nat} {x : En}, l[i]? = some x → ltE x e = decide (i < rankE l e) := by
  induction l with
  | nil => intro i x h; simp at h
  | cons y l ih =>
    intro i x h
    obtain ⟨h1, h2⟩ := List.pairwise_cons.1 hs
    unfold rankE
    cases i with
    | zero =>
      simp at h; subst h
      split
      · rename_i hy; rw [hy]; simp
      · rename_i hy; simpa using hy
    | succ i =>
      have hx : l[i]? = some x := by simpa using h
      split
      · rw [ih h2 hx, decide_eq_decide]; omega
      · rename_i hy
        cases hc : ltE x e with
        | false => simp
        | true => exact absurd (ltE_trans (h1 x (List.mem_of_getElem? hx)) hc) hy
theorem rank_pre {l : List En} (hs : SortedE l) (e : En) : ∀ x ∈ l.take (rankE l e), ltE x e = true := by
  intro x hx
  obtain ⟨i, hi⟩ := List.getElem?_of_mem hx
  rw [List.getElem?_take] at hi
  split at hi
  · rw [rank_lt hs e hi]; simpa using ‹_›
  · cases hi
theorem rank_post {l : List En} (hs : SortedE l) (e : En) (hn : hasE l e = false) : ∀ x ∈ l.drop (rankE l e), ltE e x = true := by
  intro x hx
  obtain ⟨i, hi⟩ := List.getElem?_of_mem hx
  rw [List.getElem?_drop] at hi
  have h1 := rank_lt hs e hi
  rw [decide_eq_false (by omega)] at h1
  rcases ltE_total e x with h | h | h
  · exact h
  · subst h
    unfold hasE at hn
    rw [decide_eq_false_iff_not] at hn
    by_cases h0 : i = 0
    · subst h0; exact absurd hi hn
    · have hlen : rankE l e + i < l.length := (List.getElem?_eq_some_iff.1 hi).1
      have hr : l[rankE l e]? = some l[rankE l e] := List.getElem?_eq_getElem (by omega)
      have h2 := rank_lt hs e hr
      rw [decide_eq_false (by omega)] at h2
      have h3 : ltE l[rankE l e] e = true := by
        have := List.pairwise_iff_getElem.1 hs (rankE l e) (rankE l e + i) (by omega) hlen (by omega)
        rw [(List.getElem?_eq_some_iff.1 hi).2] at this
        exact this
      rw [h2] at h3; cases h3
  · rw [h1] at h; cases h
theorem ins_mem (l : List En) (e y : En) : y ∈ insE l e ↔ y ∈ l ∨ (okE e = true ∧ y = e) := by
  unfold insE
  split
  · rename_i hn
    have hok : okE e = true := by unfold newE at hn; simp at hn; exact hn.2
    rw [List.mem_append, List.mem_cons, hok]
    conv => rhs; rw [← List.take_append_drop (rankE l e) l, List.mem_append]
    simp only [true_and]
    constructor
    · rintro (h | h | h)
      · exact .inl (.inl h)
      · exact .inr h
      · exact .inl (.inr h)
    · rintro ((h | h) | h)
      · exact .inl h
      · exact .inr (.inr h)
      · exact .inr (.inl h)
  · rename_i hn
    constructor
    · exact .inl
    · rintro (h | ⟨h, rfl⟩)
      · exact h
      · unfold newE at hn
        rw [h, Bool.and_true] at hn
        have hh : hasE l y = true := by simpa using hn
        unfold hasE at hh
        rw [decide_eq_true_iff] at hh
        exact List.mem_of_getElem? hh
theorem ins_sorted {l : List En} (hs : SortedE l) (e : En) : SortedE (insE l e) := by
  unfold insE
  split
  · rename_i hn
    have hh : hasE l e = false := by unfold newE at hn; simp at hn; exact hn.1
    have h1 := rank_pre hs e
    have h2 := rank_post hs e hh
    have hs' := hs
    unfold SortedE at hs' ⊢
    rw [← List.take_append_drop (rankE l e) l, List.pairwise_append] at hs'
    rw [List.pairwise_append, List.pairwise_cons]
    refine ⟨hs'.1, ⟨fun x hx => h2 x hx, hs'.2.1⟩, fun x hx y hy => ?_⟩
    rcases List.mem_cons.1 hy with rfl | hy
    · exact h1 x hx
    · exact hs'.2.2 x hx y hy
  · exact hs
theorem ins_length (l : List En) (e : En) : (insE l e).length = l.length + if newE l e = true then 1 else 0 := by
  unfold insE
  split
  · have := rank_le l e
    rw [List.length_append, List.length_cons, List.length_take, List.length_drop]; omega
  · rfl
/-- a list in order is known by what is in it -/
theorem sorted_ext : ∀ {l1 l2 : List En}, SortedE l1 → SortedE l2 → (∀ y, y ∈ l1 ↔ y ∈ l2) → l1 = l2
  | [], [], _, _, _ => rfl
  | [], b :: l2, _, _, h => by have := (h b).2 (by simp); simp at this
  | a :: l1, [], _, _, h => by have := (h a).1 (by simp); simp at this
  | a :: l1, b :: l2, h1, h2, h => by
    obtain ⟨p1, q1⟩ := List.pairwise_cons.1 h1
    obtain ⟨p2, q2⟩ := List.pairwise_cons.1 h2
    have hab : a = b := by
      rcases List.mem_cons.1 ((h a).1 (by simp)) with e | e
      · exact e
      · rcases List.mem_cons.1 ((h b).2 (by simp)) with e2 | e2
        · exact e2.symm
        · have := ltE_asymm (p1 b e2)
          rw [p2 a e] at this; cases this
    subst hab
    have := sorted_ext q1 q2 (fun y => by
      constructor
      · intro hy
        rcases List.mem_cons.1 ((h y).1 (by simp [hy])) with e | e
        · subst e; have := p1 y hy; rw [ltE_irrefl] at this; cases this
        · exact e
      · intro hy
        rcases List.mem_cons.1 ((h y).2 (by simp [hy])) with e | e
        · subst e; have := p2 y hy; rw [ltE_irrefl] at this; cases this
        · exact e)
    rw [this]

/-- entries added one by one -/
def addsE (l : List En) (ps : List En) : List En := ps.foldl insE l
theorem adds_snoc (l ps : List En) (e : En) : addsE l (ps ++ [e]) = insE (addsE l ps) e := by simp [addsE]
theorem adds_mem (l ps : List En) (y : En) : y ∈ addsE l ps ↔ y ∈ l ∨ (okE y = true ∧ y ∈ ps) := by
  induction ps generalizing l with
  | nil => simp [addsE]
  | cons p ps ih =>
    show y ∈ addsE (insE l p) ps ↔ _
    rw [ih, ins_mem, List.mem_cons]
    constructor
    · rintro ((h | ⟨h, rfl⟩) | ⟨h, h2⟩)
      · exact .inl h
      · exact .inr ⟨h, .inl rfl⟩
      · exact .inr ⟨h, .inr h2⟩
    · rintro (h | ⟨h, rfl | h2⟩)
      · exact .inl (.inl h)
      · exact .inl (.inr ⟨h, rfl⟩)
      · exact .inr ⟨h, h2⟩
theorem adds_sorted {l : List En} (hs : SortedE l) (ps : List En) : SortedE (addsE l ps) := by
  induction ps generalizing l with
  | nil => exact hs
  | cons p ps ih => exact ih (ins_sorted hs p)
theorem adds_le (l ps : List En) : l.length ≤ (addsE l ps).length ∧ (addsE l ps).length ≤ l.length + ps.length := by
  induction ps generalizing l with
  | nil => simp [addsE]
  | cons p ps ih =>
    have h := ih (insE l p)
    have h2 := ins_length l p
    show l.length ≤ (addsE (insE l p) ps).length ∧ (addsE (insE l p) ps).length ≤ l.length + (p :: ps).length
    rw [List.length_cons]
    split at h2 <;> omega
/-- the order does not matter -/
theorem adds_perm {ps qs : List En} (h : ∀ y, y ∈ ps ↔ y ∈ qs) : addsE [] ps = addsE [] qs :=
  sorted_ext (adds_sorted List.Pairwise.nil _) (adds_sorted List.Pairwise.nil _) fun y => by rw [adds_mem, adds_mem, h]
theorem adds_twice (ps : List En) : addsE (addsE [] ps) ps = addsE [] ps :=
  sorted_ext (adds_sorted (adds_sorted List.Pairwise.nil _) _) (adds_sorted List.Pairwise.nil _) fun y => by
    rw [adds_mem, adds_mem]
    constructor
    · rintro (h | h)
      · exact h
      · exact .inr h
    · exact .inl

/-! ### what is found -/
def findE (l : List En) (h v : Int) : List Int := (l.filter fun e => decide (e.1 = h ∧ e.2.1 = v)).map (·.2.2)
def rangeE (l : List En) (h a b : Int) : List En := l.filter fun e => decide (e.1 = h ∧ a ≤ e.2.1 ∧ e.2.1 < b)
def lastE (l : List En) (h : Int) : Option En := (l.filter fun e => decide (e.1 = h)).getLast?
def cutE (l : List En) (p : Int) : List En := l.filter fun e => decide (e.2.2 < p)
theorem find_mem {l : List En} {e : En} (he : e ∈ l) : e.2.2 ∈ findE l e.1 e.2.1 := by
  unfold findE
  rw [List.mem_map]
  exact ⟨e, by rw [List.mem_filter]; exact ⟨he, by simp⟩, rfl⟩
theorem filter_snoc (p : En → Bool) (l : List En) (k : Nat) (e : En) (h : l[k]? = some e) : (l.take (k + 1)).filter p = (l.take k).filter p ++ if p e = true then [e] else [] := by
  rw [List.take_add_one, h, List.filter_append]
  congr 1
  cases hp : p e <;> simp [List.filter_cons, hp]
theorem cut_sorted {l : List En} (hs : SortedE l) (p : Int) : SortedE (cutE l p) := List.Pairwise.sublist List.filter_sublist hs
end Go.Proofs.Ytfjilngofdahgaa

/- chapter 14: the index, plainly: entries in memory, tables in levels. No program here. -/
namespace Go.Proofs.Ytfjilngofdahgaa
set_option linter.unusedVariables false

abbrev Tb := List En
abbrev Lv := List Tb
/-- all entries -/
def allX (mem : Tb) (lv : List Lv) : Tb := addsE [] (mem ++ lv.flatten.flatten)
def joinX (l : Lv) : Tb := addsE [] l.flatten
/-- a table more in a level (or in a new one behind all) -/
def putX (lv : List Lv) (k : Nat) (t : Tb) : List Lv := if k < lv.length then lv.modify k (· ++ [t]) else lv ++ [[t]]
/-- levels that are full become a table of the next one -/
def carryX (most : Int) : List Lv → Option Tb → List Lv
  | [], none => []
  | [], some t => [[t]]
  | l :: r, o => if most ≤ ((l ++ o.toList).length : Int) then [] :: carryX most r (some (joinX (l ++ o.toList))) else (l ++ o.toList) :: carryX most r none
def flushX (most : Int) (s : Tb × List Lv) : Tb × List Lv := if s.1.length = 0 then s else ([], carryX most (putX s.2 0 s.1) none)
def hasX (s : Tb × List Lv) (e : En) : Bool := decide (e.2.2 ∈ findE (allX s.1 s.2) e.1 e.2.1)
def addX (room most : Int) (s : Tb × List Lv) (e : En) : Tb × List Lv :=
  if hasX s e = true then s
  else if newE s.1 e = true ∧ room ≤ ((insE s.1 e).length : Int) then flushX most (insE s.1 e, s.2) else (insE s.1 e, s.2)
def cntX (s : Tb × List Lv) (e : En) : Nat := if hasX s e = true then 0 else if newE s.1 e = true then 1 else 0
def addsX (room most : Int) (s : Tb × List Lv) (es : List En) : Tb × List Lv := es.foldl (addX room most) s
def cntsX (room most : Int) : Tb × List Lv → List En → Nat
  | _, [] => 0
  | s, e :: es => cntX s e + cntsX room most (addX room most s e) es
/-- how much there is: entries, tables, levels -/
def wX (s : Tb × List Lv) : Nat := s.1.length + (s.2.map fun l => (l.map fun t => t.length + 1).sum + 1).sum
def wL (l : Lv) : Nat := (l.map fun t => t.length + 1).sum
def wLs (lv : List Lv) : Nat := (lv.map fun l => wL l + 1).sum
theorem wX_eq (s : Tb × List Lv) : wX s = s.1.length + wLs s.2 := rfl
theorem wL_append (a b : Lv) : wL (a ++ b) = wL a + wL b := by unfold wL; simp
theorem wLs_append (a b : List Lv) : wLs (a ++ b) = wLs a + wLs b := by unfold wLs; simp
theorem wLs_cons (l : Lv) (r : List Lv) : wLs (l :: r) = wL l + 1 + wLs r := by unfold wLs; simp
theorem flat_len (l : Lv) : l.flatten.length + l.length = wL l := by
  induction l with
  | nil => rfl
  | cons t l ih => simp only [List.flatten_cons, List.length_append, List.length_cons] at *; unfold wL at *; simp only [List.map_cons, List.sum_cons]; omega
theorem flats_len (lv : List Lv) : lv.flatten.flatten.length + lv.length ≤ wLs lv := by
  induction lv with
  | nil => simp [wLs]
  | cons l r ih =>
    have := flat_len l
    rw [wLs_cons]
    simp only [List.flatten_cons, List.flatten_append, List.length_append, List.length_cons]
    omega
theorem level_few {lv : List Lv} {k : Nat} {l : Lv} (h : lv[k]? = some l) : wL l + 1 ≤ wLs lv := by
  induction lv generalizing k with
  | nil => simp at h
  | cons a r ih =>
    rw [wLs_cons]
    cases k with
    | zero => simp at h; subst h; omega
    | succ k => have := ih (k := k) (by simpa using h); omega
theorem table_few {l : Lv} {j : Nat} {t : Tb} (h : l[j]? = some t) : t.length + 1 ≤ wL l := by
  induction l generalizing j with
  | nil => simp at h
  | cons a r ih =>
    unfold wL
    simp only [List.map_cons, List.sum_cons]
    cases j with
    | zero => simp at h; subst h; omega
    | succ j => have := ih (j := j) (by simpa using h); unfold wL at this; omega
theorem join_few (l : Lv) : (joinX l).length + l.length ≤ wL l := by
  have h1 := (adds_le [] l.flatten).2
  have h2 := flat_len l
  simp only [List.length_nil, Nat.zero_add] at h1
  unfold joinX
  omega
theorem put_w (lv : List Lv) (k : Nat) (t : Tb) : wLs (putX lv k t) ≤ wLs lv + t.length + 2 := by
  unfold putX
  split
  · next h =>
    induction lv generalizing k with
    | nil => simp at h
    | cons a r ih =>
      cases k with
      | zero => simp only [List.modify_zero_cons, wLs_cons, wL_append]; unfold wL; simp; omega
      | succ k =>
        simp only [List.modify_succ_cons, wLs_cons]
        have := ih k (by simpa using h)
        omega
  · rw [wLs_append, wLs_cons]; unfold wL wLs; simp; omega
theorem carry_w (most : Int) (hm : 2 ≤ most) (lv : List Lv) (o : Option Tb) : wLs (carryX most lv o) ≤ wLs lv + (match o with | none => 0 | some t => t.length + 2) := by
  induction lv generalizing o with
  | nil => cases o with
    | none => simp [carryX, wLs]
    | some t => unfold carryX; rw [wLs_cons]; unfold wL wLs; simp
  | cons l r ih =>
    have hw : wL (l ++ o.toList) ≤ wL l + (match o with | none => 0 | some t => t.length + 1) := by
      rw [wL_append]; cases o with
      | none => simp [wL]
      | some t => simp [wL]
    unfold carryX
    split
    · next h =>
      have h1 := ih (some (joinX (l ++ o.toList)))
      have h2 := join_few (l ++ o.toList)
      rw [wLs_cons, wLs_cons]
      have h0 : wL [] = 0 := rfl
      dsimp only at h1
      cases o <;> dsimp only at * <;> omega
    · have h1 := ih none
      rw [wLs_cons, wLs_cons]
      dsimp only at h1
      cases o <;> dsimp only at * <;> omega
theorem flush_w (most : Int) (hm : 2 ≤ most) (s : Tb × List Lv) : wX (flushX most s) ≤ wX s + 2 := by
  unfold flushX
  split
  · omega
  · rw [wX_eq, wX_eq]
    have h1 := carry_w most hm (putX s.2 0 s.1) none
    have h2 := put_w s.2 0 s.1
    dsimp only at *
    simp only [List.length_nil]
    omega
theorem add_w (room most : Int) (hm : 2 ≤ most) (s : Tb × List Lv) (e : En) : wX (addX room most s e) ≤ wX s + 3 := by
  have hi : (insE s.1 e).length ≤ s.1.length + 1 := by rw [ins_length]; split <;> omega
  unfold addX
  split
  · omega
  · split
    · have := flush_w most hm (insE s.1 e, s.2)
      rw [wX_eq] at this ⊢
      rw [wX_eq] at this ⊢
      dsimp only at *
      omega
    · rw [wX_eq, wX_eq]; dsimp only; omega
theorem adds_w (room most : Int) (hm : 2 ≤ most) (s : Tb × List Lv) (es : List En) : wX (addsX room most s es) ≤ wX s + 3 * es.length := by
  induction es generalizing s with
  | nil => simp [addsX]
  | cons e es ih =>
    have h1 := ih (addX room most s e)
    have h2 := add_w room most hm s e
    unfold addsX at *
    simp only [List.foldl_cons, List.length_cons]
    omega
theorem addsX_snoc (room most : Int) (s : Tb × List Lv) (es : List En) (e : En) : addsX room most s (es ++ [e]) = addX room most (addsX room most s es) e := by simp [addsX]
theorem cntsX_snoc (room most : Int) (s : Tb × List Lv) (es : List En) (e : En) : cntsX room most s (es ++ [e]) = cntsX room most s es + cntX (addsX room most s es) e := by
  induction es generalizing s with
  | nil => simp [cntsX, addsX]
  | cons a es ih =>
    simp only [List.cons_append, cntsX, ih]
    unfold addsX
    simp only [List.foldl_cons]
    omega
theorem cnts_le (room most : Int) (s : Tb × List Lv) (es : List En) : cntsX room most s es ≤ es.length := by
  induction es generalizing s with
  | nil => simp [cntsX]
  | cons a es ih =>
    have := ih (addX room most s a)
    have h1 : cntX s a ≤ 1 := by unfold cntX; split <;> (try split) <;> omega
    simp only [cntsX, List.length_cons]
    omega
theorem split_at {α : Type} {l : List α} {k : Nat} {x : α} (h : l[k]? = some x) : l = l.take k ++ x :: l.drop (k + 1) := by
  obtain ⟨hk, hx⟩ := List.getElem?_eq_some_iff.1 h
  rw [← hx, ← List.drop_eq_getElem_cons hk, List.take_append_drop]
theorem part_len {lv : List Lv} {k j : Nat} {l : Lv} {t : Tb} (h : lv[k]? = some l) (h2 : l[j]? = some t) :
    (lv.take k).flatten.flatten.length + (l.take j).flatten.length + t.length ≤ lv.flatten.flatten.length := by
  have e1 := congrArg (fun x : List Lv => x.flatten.flatten.length) (split_at h)
  have e2 := congrArg (fun x : Lv => x.flatten.length) (split_at h2)
  simp only [List.flatten_append, List.flatten_cons, List.length_append] at e1 e2
  omega
theorem take_next {lv : List Lv} {k : Nat} {l : Lv} (h : lv[k]? = some l) : (lv.take (k + 1)).flatten.flatten = (lv.take k).flatten.flatten ++ l.flatten := by
  obtain ⟨hk, hx⟩ := List.getElem?_eq_some_iff.1 h
  rw [List.take_succ_eq_append_getElem hk, hx]; simp
theorem take_nextL {l : Lv} {j : Nat} {t : Tb} (h : l[j]? = some t) : (l.take (j + 1)).flatten = (l.take j).flatten ++ t := by
  obtain ⟨hk, hx⟩ := List.getElem?_eq_some_iff.1 h
  rw [List.take_succ_eq_append_getElem hk, hx]; simp
theorem adds_app (l a b : List En) : addsE l (a ++ b) = addsE (addsE l a) b := by unfold addsE; rw [List.foldl_append]
/-- how many tables each level has, up to the last one that has some -/
def cutsX (lv : List Lv) : List Int := (lv.foldl (fun (p : Nat × List Int) l => (p.1 + 1, if 0 < l.length then p.2 ++ List.replicate (p.1 - p.2.length) 0 ++ [(l.length : Int)] else p.2)) (0, [])).2
theorem cuts_fst (lv : List Lv) (p : Nat × List Int) : (lv.foldl (fun (p : Nat × List Int) l => (p.1 + 1, if 0 < l.length then p.2 ++ List.replicate (p.1 - p.2.length) 0 ++ [(l.length : Int)] else p.2)) p).1 = p.1 + lv.length := by
  induction lv generalizing p with
  | nil => rfl
  | cons l r ih => rw [List.foldl_cons, ih]; simp only [List.length_cons]; omega
theorem cuts_snoc (lv : List Lv) (l : Lv) : cutsX (lv ++ [l]) = if 0 < l.length then cutsX lv ++ List.replicate (lv.length - (cutsX lv).length) 0 ++ [(l.length : Int)] else cutsX lv := by
  unfold cutsX
  rw [List.foldl_append]
  simp only [List.foldl_cons, List.foldl_nil]
  rw [cuts_fst]
  simp only [Nat.zero_add]
theorem cuts_next {lv : List Lv} {k : Nat} {l : Lv} (h : lv[k]? = some l) : cutsX (lv.take (k + 1)) = if 0 < l.length then cutsX (lv.take k) ++ List.replicate (k - (cutsX (lv.take k)).length) 0 ++ [(l.length : Int)] else cutsX (lv.take k) := by
  obtain ⟨hk, hx⟩ := List.getElem?_eq_some_iff.1 h
  rw [List.take_succ_eq_append_getElem hk, hx, cuts_snoc, List.length_take, Nat.min_eq_left (by omega)]
theorem cuts_le (lv : List Lv) : (cutsX lv).length ≤ lv.length := by
  suffices h : ∀ k, k ≤ lv.length → (cutsX (lv.take k)).length ≤ k by
    have := h lv.length (Nat.le_refl _)
    rwa [List.take_of_length_le (Nat.le_refl _)] at this
  intro k
  induction k with
  | zero => intro _; simp [cutsX]
  | succ k ih =>
    intro hk
    have h1 := ih (by omega)
    rw [cuts_next (List.getElem?_eq_getElem (by omega : k < lv.length))]
    split
    · simp only [List.length_append, List.length_replicate, List.length_cons, List.length_nil]; omega
    · omega
end Go.Proofs.Ytfjilngofdahgaa

/- A slice value that reads as a list of cells, nil let in. No program here. -/
namespace Go.Proofs.Ytfjilngofdahgaa
open Go.RowKit

theorem add_block (a : Addr) (n : Nat) : (a.add n).block = a.block := by unfold Addr.add; split <;> rfl
theorem add_plus (a : Addr) (i j : Nat) : (a.add i).add j = a.add (i + j) := by
  unfold Addr.add
  by_cases hi : i = 0 <;> by_cases hj : j = 0 <;> simp [hi, hj, Nat.add_assoc]

/-- the slice of address A and length n holds the cells xs, size of them an element; it lies below block B -/
structure SlR (w : World) (B size : Nat) (A : Option Addr) (n : Nat) (xs : List Value) : Prop where
  len : xs.length = n * size
  cells : 0 < n → ∃ ad, A = some ad ∧ ad.block < B ∧ ∀ j u, xs[j]? = some u → w.cell? (ad.add j) = some u

section
variable {w w' : World} {B B' size n : Nat} {A : Option Addr} {xs : List Value}
theorem SlR.nil (w : World) (B size : Nat) (A : Option Addr) : SlR w B size A 0 [] := ⟨by simp, fun h => absurd h (by omega)⟩
theorem SlR.get {k : Nat} (h : SlR w B 1 A n xs) (hk : k < n) : ∃ ad u, A = some ad ∧ ad.block < B ∧ xs[k]? = some u ∧ w.cell? (ad.add k) = some u := by
  obtain ⟨ad, e, hb, hc⟩ := h.cells (by omega)
  have hl : k < xs.length := by have := h.len; omega
  exact ⟨ad, xs[k], e, hb, List.getElem?_eq_getElem hl, hc k _ (List.getElem?_eq_getElem hl)⟩
theorem SlR.keep (h : SlR w B size A n xs) (hk : ∀ p : Addr, p.block < B → w'.cell? p = w.cell? p) : SlR w' B size A n xs :=
  ⟨h.len, fun hn => by
    obtain ⟨ad, e, hb, hc⟩ := h.cells hn
    exact ⟨ad, e, hb, fun j u hu => (hk _ (by rw [add_block]; exact hb)).trans (hc j u hu)⟩⟩
theorem SlR.more (h : SlR w B size A n xs) (hB : B ≤ B') : SlR w B' size A n xs :=
  ⟨h.len, fun hn => by
    obtain ⟨ad, e, hb, hc⟩ := h.cells hn
    exact ⟨ad, e, by omega, hc⟩⟩
theorem SlR.below (h : SlR w B size A n xs) (hb : Below B w w') : SlR w' B size A n xs := h.keep fun _ hp => hb.cell hp
theorem SlR.drew (h : SlR w B size A n xs) : SlR w.drew B size A n xs := ⟨h.len, h.cells⟩
theorem SlR.drewN (h : SlR w B size A n xs) (k : Nat) : SlR (w.drewN k) B size A n xs := ⟨h.len, h.cells⟩
theorem SlR.alloc (h : SlR w B size A n xs) (hB : B ≤ w.heap.size) (o : Obj) : SlR (w.alloc o) B size A n xs := h.keep fun p hp => World.cell?_alloc_lt w o p (by omega)
theorem SlR.set (h : SlR w B size A n xs) {p : Addr} (hB : B ≤ p.block) (u : Value) : SlR (w.setCell p u) B size A n xs :=
  h.keep fun q hq => World.cell?_setCell_other w p q u (fun e => by subst e; omega)
theorem SlR.grown (h : SlR w B size A n xs) {row : Option Nat} (hg : w.grownBy w' row) (hB : B ≤ w.heap.size) (hr : ∀ g, row = some g → B ≤ g) : SlR w' B size A n xs :=
  h.keep fun p hp => World.cell?_of_block (hg.block p.block (by omega) (fun e => by have := hr _ e.symm; omega))
theorem SlR.own {base : Nat} {e : TypeId} {c : Nat} (h : w.ownsRow base e size (.slice A n c) n xs) : SlR w w.heap.size size A n xs := by
  refine ⟨h.1, fun hn => ?_⟩
  obtain ⟨g, cap, hv, _, hlt⟩ := h.form hn
  obtain rfl : A = some ⟨g, 0, none⟩ := by injection hv
  exact ⟨_, rfl, hlt, h.cells (g := g) rfl⟩
/-- a block of one's own, read as a slice over it -/
theorem SlR.blk {g : Nat} {t : TypeId} {cs : Array Value} (h : BlkIs w g t cs) (hl : cs.toList.length = n * size) (hB : g < B) : SlR w B size (some ⟨g, 0, none⟩) n cs.toList :=
  ⟨hl, fun _ => ⟨_, rfl, hB, World.news_of_block h⟩⟩
/-- a new block of the cells cs, the heap having had H blocks -/
theorem SlR.new (w : World) (H : Nat) (hH : w.heap.size = H) (t : TypeId) (cs : Array Value) (hl : cs.toList.length = n * size) : SlR (w.alloc (.cells cs t)) (H + 1) size (some ⟨H, 0, none⟩) n cs.toList := by
  subst hH
  exact SlR.blk (BlkIs.new w t cs) hl (by omega)
/-- the first m elements of it -/
theorem SlR.first {m : Nat} (h : SlR w B size A n xs) (hm : m ≤ n) : SlR w B size A m (xs.take (m * size)) := by
  refine ⟨by rw [List.length_take, h.len, Nat.min_eq_left (Nat.mul_le_mul_right _ hm)], fun hn => ?_⟩
  obtain ⟨ad, e, hb, hc⟩ := h.cells (by omega)
  refine ⟨ad, e, hb, fun j u hu => hc j u ?_⟩
  rw [List.getElem?_take] at hu
  split at hu
  · exact hu
  · cases hu
/-- what stands behind the first k -/
theorem SlR.cut {k cap : Nat} (h : SlR w B size A n xs) (hk : k ≤ n) (hc : n ≤ cap) :
    SlR w B size (if cap = k then A else A.map (·.add (k * size))) (n - k) (xs.drop (k * size)) := by
  refine ⟨by rw [List.length_drop, h.len, Nat.sub_mul], fun hn => ?_⟩
  obtain ⟨ad, rfl, hb, hcell⟩ := h.cells (by omega)
  rw [if_neg (by omega)]
  refine ⟨ad.add (k * size), rfl, by rw [add_block]; exact hb, fun j u hu => ?_⟩
  rw [add_plus]
  exact hcell _ u (by rw [← hu, List.getElem?_drop])
end

section
variable {P : Program} (w : World)
/-- append onto a row of the call's own, at an operation that is guarded -/
theorem wpList_append_guarded {ops : Array Oper} {rest : List Oper} {o : Oper} {a : Act} {Q : Exit → Act → World → Prop} (hw : Region.wanted o (yielded ops a.tmps) = true) (s x : Operand) (t : TypeId)
    (ho : o.op = .call { callee := .builtin .append, args := #[s, x], argTypes := #[t, t] })
    (base : Nat) (e : TypeId) (i : TypeInfo) (z : Value) (size bytes : Nat) (ht : P.underlying t = some (.slice e)) (hi : P.info? e = some i) (hz : i.zero = some z)
    (hsize : i.size = size) (hby : i.bytes = bytes) (hzs : z.cells.size = size) (hsz : 0 < size)
    (v : Value) (n : Nat) (xs : List Value) (hs : a.eval s = v) (hown : w.ownsRow base e size v n xs)
    (ad : Addr) (m c : Nat) (news : List Value) (hx : a.eval x = .slice (some ad) m c) (hl : news.length = m * size) (hnews : ∀ j u, news[j]? = some u → w.cell? (ad.add j) = some u) (h1 : ∀ u ∈ news, u.oneCell' = true)
    (hm : 0 < m) (h63 : n + m ≤ maxLen) (hbytes : (n + m) * bytes ≤ 140737488355328) (hbase : base ≤ w.heap.size) (H : Nat) (hH : w.heap.size = H)
    (h : ∀ g cap w', w'.ownsRow base e size (.slice (some ⟨g, 0, none⟩) (n + m) cap) (n + m) (xs ++ news) → w.grownBy w' v.ownBlock → (v.ownBlock = some g ∨ g = H) → g < w'.heap.size → wpList P ops Q rest (a.put o.dst (.slice (some ⟨g, 0, none⟩) (n + m) cap)) w') : wpList P ops Q (o :: rest) a w :=
  wpList_step fun _ hK => by
    rw [if_pos hw]
    exact wp_append_lies w s x t ho base e i z size bytes ht hi hz hsize hby hzs hsz v n xs hs hown ad m c news hx hl hnews h1 hm h63 hbytes hbase H hH fun g cap w' h2 h3 h4 h5 => hK _ _ (h g cap w' h2 h3 h4 h5)
end

section
variable {P : Program} (w : World)
theorem run_append_zero (base : Nat) (t ty e : TypeId) (i : TypeInfo) (size : Nat) (ht : P.underlying t = some (.slice e)) (hi : P.info? e = some i)
    (v : Value) (n : Nat) (xs : List Value) (hown : w.ownsRow base e size v n xs) (A : Option Addr) (c : Nat) : (Builtin.append_ #[t, t] ty #[v, .slice A 0 c]).run P w = .ok v w := by
  have hz : ∀ A : Option Addr, (Builtin.firstCells i.size 0 (.slice A 0 c)).run P w = .ok #[] w := by
    intro A
    cases A <;> simp [Builtin.firstCells, loadCells, loadCellsFrom]
  rcases hown.2 with ⟨rfl, rfl⟩ | ⟨g, cap, cur, rfl, _, _, hnc, _⟩
  · cases A <;> simp [Builtin.append_, run_underlying ht, sizeOf, typeInfo, hi, Builtin.lenOf, Builtin.firstCells, loadCells, loadCellsFrom]
  · cases A <;> simp [Builtin.append_, run_underlying ht, sizeOf, typeInfo, hi, Builtin.lenOf, Builtin.firstCells, hnc, storeCells, loadCells, loadCellsFrom]

theorem run_append_sl (base : Nat) (t ty e : TypeId) (i : TypeInfo) (z : Value) (size bytes : Nat) (ht : P.underlying t = some (.slice e)) (hi : P.info? e = some i) (hz : i.zero = some z)
    (hsize : i.size = size) (hby : i.bytes = bytes) (hzs : z.cells.size = size) (hsz : 0 < size)
    (v : Value) (n : Nat) (xs : List Value) (hown : w.ownsRow base e size v n xs)
    (B : Nat) (A : Option Addr) (m c : Nat) (news : List Value) (hr : SlR w B size A m news) (h1 : ∀ u ∈ news, u.oneCell' = true)
    (h63 : n + m ≤ maxLen) (hbytes : (n + m) * bytes ≤ 140737488355328) (hbase : base ≤ w.heap.size) :
    ∃ v' w', (Builtin.append_ #[t, t] ty #[v, .slice A m c]).run P w = .ok v' w' ∧ w'.ownsRow base e size v' (n + m) (xs ++ news) ∧ w.grownBy w' v.ownBlock ∧
      (v'.ownBlock = v.ownBlock ∨ v'.ownBlock = some w.heap.size) := by
  by_cases hm : m = 0
  · subst hm
    have hn : news = [] := List.eq_nil_of_length_eq_zero (by simpa using hr.len)
    subst hn
    exact ⟨v, w, run_append_zero w base t ty e i size ht hi v n xs hown A c, by simpa using hown, World.grownBy.refl w _, .inl rfl⟩
  · obtain ⟨ad, rfl, _, hc⟩ := hr.cells (by omega)
    obtain ⟨v', w', hrun, h2, h3, _, h5⟩ := run_append_own_at (P := P) w base t ty e i z size bytes ht hi hz hsize hby hzs hsz v n xs hown ad m c news hr.len hc h1 h63 hbytes hbase
    exact ⟨v', w', hrun, h2, h3, h5⟩

/-- append onto a row of the call's own of whatever slice -/
theorem wpList_append_sl {ops : Array Oper} {rest : List Oper} {o : Oper} {a : Act} {Q : Exit → Act → World → Prop} (hw : Region.wanted o (yielded ops a.tmps) = true) (s x : Operand) (t : TypeId)
    (ho : o.op = .call { callee := .builtin .append, args := #[s, x], argTypes := #[t, t] })
    (base : Nat) (e : TypeId) (i : TypeInfo) (z : Value) (size bytes : Nat) (ht : P.underlying t = some (.slice e)) (hi : P.info? e = some i) (hz : i.zero = some z)
    (hsize : i.size = size) (hby : i.bytes = bytes) (hzs : z.cells.size = size) (hsz : 0 < size)
    (v : Value) (n : Nat) (xs : List Value) (hs : a.eval s = v) (hown : w.ownsRow base e size v n xs)
    (B : Nat) (A : Option Addr) (m c : Nat) (news : List Value) (hx : a.eval x = .slice A m c) (hr : SlR w B size A m news) (h1 : ∀ u ∈ news, u.oneCell' = true)
    (h63 : n + m ≤ maxLen) (hbytes : (n + m) * bytes ≤ 140737488355328) (hbase : base ≤ w.heap.size)
    (h : ∀ v' w', w'.ownsRow base e size v' (n + m) (xs ++ news) → w.grownBy w' v.ownBlock → (v'.ownBlock = v.ownBlock ∨ v'.ownBlock = some w.heap.size) → wpList P ops Q rest (a.put o.dst v') w') : wpList P ops Q (o :: rest) a w :=
  wpList_step fun _ hK => by
    rw [if_pos hw]
    obtain ⟨v', w', hrun, h2, h3, h4⟩ := run_append_sl (P := P) w base t o.type e i z size bytes ht hi hz hsize hby hzs hsz v n xs hown B A m c news hr h1 h63 hbytes hbase
    unfold Oper.wp execOp
    simp only [ho, resolve, invoke, builtin, Sem.run_bind, Sem.run_pure, Result.andThen_ok, List.map_toArray, List.map_cons, List.map_nil, hs, hx, hrun]
    exact hK _ _ (h v' w' h2 h3 h4)
end

/-- texts as values -/
def strVs (ss : List ByteArray) : List Value := ss.map Value.string
theorem strVs_get {ss : List ByteArray} {k : Nat} {u : Value} (h : (strVs ss)[k]? = some u) : ∃ s, ss[k]? = some s ∧ u = .string s := by
  simp only [strVs, List.getElem?_map, Option.map_eq_some_iff] at h
  obtain ⟨s, h1, h2⟩ := h
  exact ⟨s, h1, h2.symm⟩
theorem strVs_one {ss : List ByteArray} : ∀ u ∈ strVs ss, u.oneCell' = true := by
  intro u hu
  simp only [strVs, List.mem_map] at hu
  obtain ⟨s, _, rfl⟩ := hu
  rfl
theorem own_cap {w : World} {base : Nat} {e : TypeId} {size n m c : Nat} {A : Option Addr} {xs : List Value} (h : w.ownsRow base e size (.slice A n c) m xs) (hm : 0 < m) : m ≤ c := by
  rcases h.2 with ⟨_, h0⟩ | ⟨g, cap, cur, hv, _, _, hnc, _⟩
  · omega
  · injection hv with _ _ hc
    omega
theorem own_slice {w : World} {base : Nat} {e : TypeId} {size n : Nat} {v : Value} {xs : List Value} (h : w.ownsRow base e size v n xs) : ∃ A c, v = .slice A n c ∧ n ≤ c := by
  rcases h.2 with ⟨rfl, rfl⟩ | ⟨g, cap, cur, rfl, _, _, hnc, _⟩
  · exact ⟨none, 0, rfl, Nat.le_refl _⟩
  · exact ⟨_, _, rfl, hnc⟩
/-- a slice that was cut shorter keeps its own cells -/
theorem own_first {w : World} {base : Nat} {e : TypeId} {g n m cap : Nat} {xs : List Value} (h : w.ownsRow base e 1 (.slice (some ⟨g, 0, none⟩) n cap) n xs) (hm : m ≤ n) :
    SlR w w.heap.size 1 (some ⟨g, 0, none⟩) m (xs.take m) := by
  have := (SlR.own h).first hm
  simpa using this
end Go.Proofs.Ytfjilngofdahgaa

/- What a call may have changed, block by block. No program here. -/
namespace Go.Proofs.Ytfjilngofdahgaa
open Go.RowKit

/-- of the blocks that were there just those of S may have been written -/
structure Chg (S : Nat → Prop) (w w' : World) : Prop where
  os : w'.os = w.os
  tape : w'.tape = w.tape
  output : w'.output = w.output
  size : w.heap.size ≤ w'.heap.size
  block : ∀ k, k < w.heap.size → ¬ S k → w'.heap[k]? = w.heap[k]?

section
variable {S T : Nat → Prop} {w w' w'' : World}
theorem Chg.refl (S : Nat → Prop) (w : World) : Chg S w w := ⟨rfl, rfl, rfl, Nat.le_refl _, fun _ _ _ => rfl⟩
theorem Chg.trans (h : Chg S w w') (h2 : Chg T w' w'') (hT : ∀ k, k < w.heap.size → T k → S k) : Chg S w w'' :=
  ⟨h2.os.trans h.os, h2.tape.trans h.tape, h2.output.trans h.output, Nat.le_trans h.size h2.size, fun k hk hn => (h2.block k (Nat.lt_of_lt_of_le hk h.size) (fun ht => hn (hT k hk ht))).trans (h.block k hk hn)⟩
theorem Chg.more (h : Chg S w w') (hT : ∀ k, k < w.heap.size → S k → T k) : Chg T w w' := ⟨h.os, h.tape, h.output, h.size, fun k hk hn => h.block k hk (fun hs => hn (hT k hk hs))⟩
theorem Chg.drew (h : Chg S w w') : Chg S w w'.drew := ⟨h.os, h.tape, h.output, h.size, h.block⟩
theorem Chg.drewN (h : Chg S w w') (n : Nat) : Chg S w (w'.drewN n) := ⟨h.os, h.tape, h.output, h.size, h.block⟩
theorem Chg.undrew (h : Chg S w.drew w') : Chg S w w' := ⟨h.os, h.tape, h.output, h.size, h.block⟩
theorem Chg.alloc (h : Chg S w w') (o : Obj) : Chg S w (w'.alloc o) :=
  ⟨h.os, h.tape, h.output, Nat.le_trans h.size (by simp), fun k hk hn => (Below.heap_alloc _ _ _ (Nat.lt_of_lt_of_le hk h.size)).trans (h.block k hk hn)⟩
theorem Chg.set (h : Chg S w w') {a : Addr} (ha : a.block < w.heap.size → S a.block) (u : Value) : Chg S w (w'.setCell a u) :=
  ⟨h.os, h.tape, h.output, by simpa [World.setCell] using h.size, fun k hk hn => (Below.heap_setCell _ _ _ _ (fun e => hn (by subst e; exact ha hk))).trans (h.block k hk hn)⟩
theorem Chg.grown (h : Chg S w w') {row : Option Nat} (hg : w'.grownBy w'' row) (hr : ∀ k, row = some k → k < w.heap.size → S k) : Chg S w w'' :=
  ⟨hg.os.trans h.os, hg.tape.trans h.tape, hg.output.trans h.output, Nat.le_trans h.size hg.size, fun k hk hn =>
    (hg.block k (Nat.lt_of_lt_of_le hk h.size) (fun e => hn (hr k e.symm hk))).trans (h.block k hk hn)⟩
theorem Chg.under {B : Nat} (h : Chg S w w') (hb : Below B w' w'') (hB : w.heap.size ≤ B) : Chg S w w'' :=
  ⟨hb.os.trans h.os, hb.tape.trans h.tape, hb.output.trans h.output, Nat.le_trans h.size hb.size, fun k hk hn => (hb.block k (Nat.lt_of_lt_of_le hk hB)).trans (h.block k hk hn)⟩
theorem Chg.of_below (hb : Below w.heap.size w w') : Chg S w w' := ⟨hb.os, hb.tape, hb.output, hb.size, fun k hk _ => hb.block k hk⟩
theorem Chg.below {B : Nat} (h : Chg S w w') (hS : ∀ k, S k → B ≤ k) (hB : B ≤ w.heap.size) : Below B w w' :=
  ⟨h.os, h.tape, h.output, h.size, fun k hk => h.block k (by omega) (fun hs => by have := hS k hs; omega)⟩
theorem BlkIs.chg {g : Nat} {t : TypeId} {cs : Array Value} (h : BlkIs w g t cs) (hc : Chg S w w') (hg : ¬ S g) : BlkIs w' g t cs := (hc.block g h.lt hg).trans h
theorem own_chg {base : Nat} {e : TypeId} {size n : Nat} {v : Value} {xs : List Value} (h : w.ownsRow base e size v n xs) (hc : Chg S w w') (hv : ∀ k, v.ownBlock = some k → ¬ S k) : w'.ownsRow base e size v n xs := by
  have hlt := h.lt
  refine ⟨h.1, ?_⟩
  rcases h.2 with h0 | ⟨g', cap, cur, hvv, hbg, hh, rest⟩
  · exact .inl h0
  · have hk : v.ownBlock = some g' := by rw [hvv]; rfl
    exact .inr ⟨g', cap, cur, hvv, hbg, (hc.block g' (hlt g' hk).2 (hv g' hk)).trans hh, rest⟩
theorem SlR.chg {B size n : Nat} {A : Option Addr} {xs : List Value} (h : SlR w B size A n xs) (hB : B ≤ w.heap.size) (hc : Chg S w w') (hS : ∀ ad, A = some ad → ¬ S ad.block) : SlR w' B size A n xs :=
  ⟨h.len, fun hn => by
    obtain ⟨ad, e, hb, hcell⟩ := h.cells hn
    refine ⟨ad, e, hb, fun j u hu => ?_⟩
    have hblk := hc.block ad.block (by omega) (hS ad e)
    rw [← hcell j u hu]
    exact World.cell?_of_block (by rw [add_block]; exact hblk)⟩
end
end Go.Proofs.Ytfjilngofdahgaa

/- Lists of integers as values. No program here. -/
namespace Go.Proofs.Ytfjilngofdahgaa
open Go.RowKit

/-- integers as values -/
def intVs (zs : List Int) : List Value := zs.map (Value.int .i64)
theorem intVs_get {zs : List Int} {k : Nat} {u : Value} (h : (intVs zs)[k]? = some u) : ∃ z, zs[k]? = some z ∧ u = .int .i64 z := by
  simp only [intVs, List.getElem?_map, Option.map_eq_some_iff] at h
  obtain ⟨s, h1, h2⟩ := h
  exact ⟨s, h1, h2.symm⟩
theorem intVs_at {zs : List Int} {k : Nat} {z : Int} (h : zs[k]? = some z) : (intVs zs)[k]? = some (.int .i64 z) := by simp [intVs, h]
theorem intVs_one {zs : List Int} : ∀ u ∈ intVs zs, u.oneCell' = true := by
  intro u hu
  simp only [intVs, List.mem_map] at hu
  obtain ⟨s, _, rfl⟩ := hu
  rfl
theorem intVs_len {w : World} {B n : Nat} {A : Option Addr} {zs : List Int} (h : SlR w B 1 A n (intVs zs)) : zs.length = n := by have := h.len; simpa [intVs] using this
end Go.Proofs.Ytfjilngofdahgaa
