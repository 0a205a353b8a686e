/- Bytes in a row of their own, made out of a text and read back. No program here. -/
import Derived.Test.YtfjilngofdahgaaJIndexBytes1
import Derived.Lib.ConvBytes

namespace Go.Proofs.Ytfjilngofdahgaa
open Go.RowKit

/-- the block g holds the bytes l at its head, and they may be written -/
structure ByteRow (w : World) (g : Nat) (l : List UInt8) : Prop where
  lt : g < w.heap.size
  cell : ∀ j (hj : j < l.length), w.cell? ⟨g, j, none⟩ = some (byteV l[j])
  free : ∀ j, j < l.length → w.frozen? ⟨g, j, none⟩ = false

section
variable {w w' : World} {g : Nat} {l : List UInt8}
theorem ByteRow.below {B : Nat} (h : ByteRow w g l) (hb : Below B w w') (hg : g < B) : ByteRow w' g l :=
  ⟨Nat.lt_of_lt_of_le h.lt hb.size, fun j hj => (hb.cell (p := ⟨g, j, none⟩) hg).trans (h.cell j hj), fun j hj => (hb.frozen (p := ⟨g, j, none⟩) hg).trans (h.free j hj)⟩
theorem ByteRow.drew (h : ByteRow w g l) : ByteRow w.drew g l := ⟨h.lt, h.cell, h.free⟩
theorem ByteRow.drewN (h : ByteRow w g l) (n : Nat) : ByteRow (w.drewN n) g l := ⟨h.lt, h.cell, h.free⟩
theorem ByteRow.set (h : ByteRow w g l) (p : Nat) (hp : p < l.length) (c : UInt8) : ByteRow (w.setCell ⟨g, p, none⟩ (byteV c)) g (l.set p c) := by
  refine ⟨by rw [show (w.setCell ⟨g, p, none⟩ (byteV c)).heap.size = w.heap.size from by simp [World.setCell]]; exact h.lt, fun j hj => ?_, fun j hj => ?_⟩
  · have hj' : j < l.length := by simpa using hj
    by_cases e : p = j
    · subst e
      rw [World.cell?_setCell_same w _ _ (h.cell p hj')]
      simp
    · rw [World.cell?_setCell_other w _ _ _ (by simp [e]), h.cell j hj', List.getElem_set_ne e]
  · rw [World.frozen?_setCell]
    exact h.free j (by simpa using hj)
theorem ByteRow.slr (h : ByteRow w g l) : SlR w w.heap.size 1 (some ⟨g, 0, none⟩) l.length (l.map byteV) :=
  ⟨by simp, fun _ => ⟨_, rfl, h.lt, fun j u hu => by
    simp only [List.getElem?_map, Option.map_eq_some_iff] at hu
    obtain ⟨c, hc, rfl⟩ := hu
    obtain ⟨hj, rfl⟩ := List.getElem?_eq_some_iff.1 hc
    rw [show (⟨g, 0, none⟩ : Addr).add j = ⟨g, j, none⟩ from by unfold Addr.add; split <;> simp_all]
    exact h.cell j hj⟩⟩
end

theorem BlkIs.bytes {w : World} {g : Nat} {e : TypeId} {cs : Array Value} {l : List UInt8} (h : BlkIs w g e cs) (hl : cs.toList.take l.length = l.map byteV) : ByteRow w g l := by
  refine ⟨h.lt, fun j hj => ?_, fun j hj => h.free j⟩
  rw [h.cell j]
  have := congrArg (fun x => x[j]?) hl
  simp only [List.getElem?_take, hj, if_true, List.getElem?_map, List.getElem?_eq_getElem hj] at this
  simpa using this

section
variable {P : Program} (w : World)
theorem run_str_row (src dst e : TypeId) (hs : P.underlying src = some (.slice e)) (he : P.underlying e = some (.int .u8)) (hd : P.underlying dst = some .string)
    (g cap : Nat) (l : List UInt8) (h : ByteRow w g l) : (convert src dst (.slice (some ⟨g, 0, none⟩) l.length cap)).run P w = .ok (.string ⟨l.toArray⟩) w := by
  rw [run_convert_bytes_arg w src e hs he g 0 l.length cap (l.map fun c => (c.toNat : Int)) (by simp) (fun i hi => ?_) dst hd, strOfNums_bytes]
  rw [Nat.zero_add, h.cell i hi]
  simp [byteV, hi]

theorem byteRow_new (e : TypeId) (s : ByteArray) : ByteRow (Lib.bytesWorld w e s) w.heap.size s.data.toList := by
  refine ⟨by rw [Lib.bytesWorld_size]; omega, fun j hj => ?_, fun j hj => ?_⟩
  · rw [Lib.bytesWorld_cell w e s j (by rw [size_list]; exact hj)]
    simp [byteV, List.getD_eq_getElem?_getD, List.getElem?_eq_getElem hj]
  · simp only [World.frozen?, Lib.bytesWorld_at_new]
    have : (Lib.bytesCells w e s).size = s.size + (grownCap w s.size 0 e - s.size) := by simp [Lib.bytesCells]
    have hj' : j < s.size := by rw [size_list]; exact hj
    simp <;> omega
theorem below_bytesWorld (e : TypeId) (s : ByteArray) : Below w.heap.size w (Lib.bytesWorld w e s) :=
  ⟨by simp [Lib.bytesWorld, World.freeze, World.alloc, World.drew, -World.alloc_eq, -World.drew_eq], by simp [Lib.bytesWorld, World.freeze, World.alloc, World.drew, -World.alloc_eq, -World.drew_eq], by simp [Lib.bytesWorld, World.freeze, World.alloc, World.drew, -World.alloc_eq, -World.drew_eq], by rw [Lib.bytesWorld_size]; omega, fun k hk => Lib.bytesWorld_at_old w e s k hk⟩

/-- a text made into bytes -/
theorem wpList_to_bytes {ops : Array Oper} {rest : List Oper} {o : Oper} {a : Act} {Q : Exit → Act → World → Prop} (src dst e : TypeId) (x : Operand) (s : ByteArray)
    (ho : o.op = .convert src dst x) (hgd : o.guard = none) (hx : a.eval x = .string s)
    (hs : P.underlying src = some .string) (hd : P.underlying dst = some (.slice e)) (he : P.underlying e = some (.int .u8))
    (h : ∀ g cap w', g = w.heap.size → s.size ≤ cap → Below w.heap.size w w' → ByteRow w' g s.data.toList → wpList P ops Q rest (a.put o.dst (.slice (some ⟨g, 0, none⟩) s.size cap)) w') : wpList P ops Q (o :: rest) a w :=
  wpList_plain hgd fun K hK => by
    unfold Oper.wp execOp
    simp only [ho, hx, Sem.run_bind, Lib.run_convert_string_bytes w src dst e s hs hd he, Sem.run_pure, Result.andThen_ok]
    exact hK _ _ (h _ _ _ rfl (grownCap_ge w s.size 0 e) (below_bytesWorld w e s) (byteRow_new w e s))
end
theorem bits_xor_u8 (x y : UInt8) : bits .xor .u8 (x.toNat : Int) (y.toNat : Int) = ((x ^^^ y).toNat : Int) := by
  show IntKind.u8.wrap (((BitVec.ofInt 8 (x.toNat : Int)) ^^^ (BitVec.ofInt 8 (y.toNat : Int))).toNat : Int) = _
  rw [show BitVec.ofInt 8 (x.toNat : Int) = x.toBitVec from by simp, show BitVec.ofInt 8 (y.toNat : Int) = y.toBitVec from by simp]
  rw [show (x.toBitVec ^^^ y.toBitVec).toNat = (x ^^^ y).toNat from rfl]
  have := (x ^^^ y).toNat_lt
  exact IntWalk.u8_in _ (by omega)
theorem xor_ne (x y : UInt8) (h : y ≠ 0) : x ^^^ y ≠ x := by
  intro e
  apply h
  have := congrArg (x ^^^ ·) e
  simpa [← UInt8.xor_assoc] using this
theorem set_getElem_self (l : List UInt8) (p : Nat) (hp : p < l.length) : l.set p l[p] = l := by simp
end Go.Proofs.Ytfjilngofdahgaa
