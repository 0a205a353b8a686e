/- package event: the command that marks a time, laid. -/
import Derived.Test.YtnnnilpgnjndlaaCShipBytesMark

namespace Go.Proofs.Ytnnnilpgnjndlaa
open Go.RowKit
set_option maxHeartbeats 8000000
set_option maxRecDepth 100000
set_option linter.unusedVariables false

/-- the bytes of the mark -/
def markL : List UInt8 := beBytes 1 4 ++ be64 3 ++ textL [] ++ be64 0 ++ beBytes 1 0 ++ be64 0 ++ be64 0 ++ be64 0
theorem markL_length : markL.length = 46 := by unfold markL; simp only [List.length_append, be64_length, beBytes_length, textL_length, List.length_nil]

theorem put_mark (w : World) :
    Calls Try.prog 27 #[.agg #[.int .i64 4, .int .i64 3, .string ByteArray.empty, .int .i64 0, .slice none 0 0, .int .i64 0, .int .i64 0, .int .i64 0]] w fun e w' => e = .returned (.tuple #[.string ⟨markL.toArray⟩, .int .i64 0]) ∧ Below w.heap.size w w' := by
  go_enter Try.func27, Try.ntmps27
  go_wp2_with fail
  refine (check_mark _).mono ?_
  rintro e w1 ⟨rfl, hb1⟩
  have hB := (BlkIs.new w 26 #[.int .i64 4, .int .i64 3, .string ByteArray.empty, .int .i64 0, .slice none 0 0, .int .i64 0, .int .i64 0, .int .i64 0]).below hb1 (by simp)
  have hb01 : Below w.heap.size w w1 := ((Below.refl _ _).alloc (Nat.le_refl _) _).trans (hb1.mono (by simp))
  have hlt : w.heap.size < w1.heap.size := hB.lt
  have hk0 := (hB.alloc (.cells #[.slice none 0 0, .int .i64 0] 61)).cell
  clear hB hb1
  have tok1 : True := trivial
  have tok2 : True := trivial
  have tok3 : True := trivial
  go_wp2_with fail
  go_region_held3 (fun wx => ∀ i, wx.cell? ⟨w.heap.size, i, none⟩ = (#[.int .i64 4, .int .i64 3, .string ByteArray.empty, .int .i64 0, .slice none 0 0, .int .i64 0, .int .i64 0, .int .i64 0] : Array Value)[i]?)
    (first | exact hk0 | exact hk1 | exact hk2 | exact hk3 | exact hk4 | exact hk5)
    ((first
      | (have _t := tok1; clear tok1 _t; go_at_call 41; refine (u8_ok w1.heap.size w1.heap.size 4 [] _ (by exact out_new0 w1) (by simp <;> omega) (by simp) (by omega)).mono ?_; rintro e w2 ⟨rfl, ho2, hb2⟩; have Ho2 := Lib.hid ho2; clear ho2; have hbb2 : Below w1.heap.size w1 w2 := ((Below.refl _ _).alloc (Nat.le_refl _) _).trans (below_undrew hb2); have hk1 : ∀ i, w2.cell? ⟨w.heap.size, i, none⟩ = (#[.int .i64 4, .int .i64 3, .string ByteArray.empty, .int .i64 0, .slice none 0 0, .int .i64 0, .int .i64 0, .int .i64 0] : Array Value)[i]? := fun i => (hb2.cell (p := ⟨w.heap.size, i, none⟩) hlt).trans (hk0 i))
      | (have _t := tok2; clear tok2 _t; go_at_call 42; refine (outI64_any w1.heap.size w1.heap.size 3 _ _ (by exact Ho2.out) (by exact hbb2.size) (by simp [beBytes_length])).mono ?_; rintro e w3 ⟨rfl, ho3, hb3⟩; have Ho3 := Lib.hid ho3; clear ho3; have hbb3 : Below w1.heap.size w1 w3 := hbb2.trans (by first | exact hb3 | exact below_undrew hb3 | exact below_undrewN hb3); have hk2 : ∀ i, w3.cell? ⟨w.heap.size, i, none⟩ = (#[.int .i64 4, .int .i64 3, .string ByteArray.empty, .int .i64 0, .slice none 0 0, .int .i64 0, .int .i64 0, .int .i64 0] : Array Value)[i]? := fun i => (hb3.cell (p := ⟨w.heap.size, i, none⟩) hlt).trans (hk1 i))
      | (go_at_call 43; refine (outText_ok w1.heap.size w1.heap.size _ ByteArray.empty _ (by exact Ho3.out) (by exact hbb3.size) (by decide) (by simp [beBytes_length, be64_length])).mono ?_; rintro e w4 ⟨rfl, ho4, hb4⟩; have Ho4 := Lib.hid ho4; clear ho4; have hbb4 : Below w1.heap.size w1 w4 := hbb3.trans (by first | exact hb4 | exact below_undrew hb4 | exact below_undrewN hb4); have hk3 : ∀ i, w4.cell? ⟨w.heap.size, i, none⟩ = (#[.int .i64 4, .int .i64 3, .string ByteArray.empty, .int .i64 0, .slice none 0 0, .int .i64 0, .int .i64 0, .int .i64 0] : Array Value)[i]? := fun i => (hb4.cell (p := ⟨w.heap.size, i, none⟩) hlt).trans (hk2 i))
      | (have _t := tok3; clear tok3 _t; go_at_call 42; refine (outI64_any w1.heap.size w1.heap.size 0 _ _ (by exact Ho4.out) (by exact hbb4.size) (by simp [beBytes_length, be64_length, textL_length] <;> decide)).mono ?_; rintro e w5 ⟨rfl, ho5, hb5⟩; have Ho5 := Lib.hid ho5; clear ho5; have hbb5 : Below w1.heap.size w1 w5 := hbb4.trans (by first | exact hb5 | exact below_undrew hb5 | exact below_undrewN hb5); have hk4 : ∀ i, w5.cell? ⟨w.heap.size, i, none⟩ = (#[.int .i64 4, .int .i64 3, .string ByteArray.empty, .int .i64 0, .slice none 0 0, .int .i64 0, .int .i64 0, .int .i64 0] : Array Value)[i]? := fun i => (hb5.cell (p := ⟨w.heap.size, i, none⟩) hlt).trans (hk3 i))
      | (go_at_call 41; refine (u8_ok w1.heap.size w1.heap.size 0 _ _ (by exact Ho5.out) (by exact hbb5.size) (by simp [beBytes_length, be64_length, textL_length] <;> decide) (by omega)).mono ?_; rintro e w6 ⟨rfl, ho6, hb6⟩; have Ho6 := Lib.hid ho6; clear ho6; have hbb6 : Below w1.heap.size w1 w6 := hbb5.trans (by first | exact hb6 | exact below_undrew hb6 | exact below_undrewN hb6); have hk5 : ∀ i, w6.cell? ⟨w.heap.size, i, none⟩ = (#[.int .i64 4, .int .i64 3, .string ByteArray.empty, .int .i64 0, .slice none 0 0, .int .i64 0, .int .i64 0, .int .i64 0] : Array Value)[i]? := fun i => (hb6.cell (p := ⟨w.heap.size, i, none⟩) hlt).trans (hk4 i))))
  have hk5' := hk5
  clear hk0 hk1 hk2 hk3 hk4
  go_wp2_with fail
  refine wp_loop_rounds 1 ?_
  rw [rounds_succ]
  have tok4 : True := trivial
  have tok5 : True := trivial
  go_wp2_with fail
  go_region_held3 (fun wx => ∀ i, wx.cell? ⟨w.heap.size, i, none⟩ = (#[.int .i64 4, .int .i64 3, .string ByteArray.empty, .int .i64 0, .slice none 0 0, .int .i64 0, .int .i64 0, .int .i64 0] : Array Value)[i]?)
    (first | exact hk5 | exact hk6 | exact hk7 | exact hk8)
    ((first
      | (have _t := tok4; clear tok4 _t; go_at_call 42; refine (outI64_any w1.heap.size w1.heap.size 0 _ _ (by exact Ho6.out) (by exact hbb6.size) (by simp [beBytes_length, be64_length, textL_length] <;> decide)).mono ?_; rintro e w7 ⟨rfl, ho7, hb7⟩; have Ho7 := Lib.hid ho7; clear ho7; have hbb7 : Below w1.heap.size w1 w7 := hbb6.trans (by first | exact hb7 | exact below_undrew hb7 | exact below_undrewN hb7); have hk6 : ∀ i, w7.cell? ⟨w.heap.size, i, none⟩ = (#[.int .i64 4, .int .i64 3, .string ByteArray.empty, .int .i64 0, .slice none 0 0, .int .i64 0, .int .i64 0, .int .i64 0] : Array Value)[i]? := fun i => (hb7.cell (p := ⟨w.heap.size, i, none⟩) hlt).trans (hk5 i))
      | (have _t := tok5; clear tok5 _t; go_at_call 42; refine (outI64_any w1.heap.size w1.heap.size 0 _ _ (by exact Ho7.out) (by exact hbb7.size) (by simp [beBytes_length, be64_length, textL_length] <;> decide)).mono ?_; rintro e w8 ⟨rfl, ho8, hb8⟩; have Ho8 := Lib.hid ho8; clear ho8; have hbb8 : Below w1.heap.size w1 w8 := hbb7.trans (by first | exact hb8 | exact below_undrew hb8 | exact below_undrewN hb8); have hk7 : ∀ i, w8.cell? ⟨w.heap.size, i, none⟩ = (#[.int .i64 4, .int .i64 3, .string ByteArray.empty, .int .i64 0, .slice none 0 0, .int .i64 0, .int .i64 0, .int .i64 0] : Array Value)[i]? := fun i => (hb8.cell (p := ⟨w.heap.size, i, none⟩) hlt).trans (hk6 i))
      | (go_at_call 42; refine (outI64_any w1.heap.size w1.heap.size 0 _ _ (by exact Ho8.out) (by exact hbb8.size) (by simp [beBytes_length, be64_length, textL_length] <;> decide)).mono ?_; rintro e w9 ⟨rfl, ho9, hb9⟩; have Ho9 := Lib.hid ho9; clear ho9; have hbb9 : Below w1.heap.size w1 w9 := hbb8.trans (by first | exact hb9 | exact below_undrew hb9 | exact below_undrewN hb9); have hk8 : ∀ i, w9.cell? ⟨w.heap.size, i, none⟩ = (#[.int .i64 4, .int .i64 3, .string ByteArray.empty, .int .i64 0, .slice none 0 0, .int .i64 0, .int .i64 0, .int .i64 0] : Array Value)[i]? := fun i => (hb9.cell (p := ⟨w.heap.size, i, none⟩) hlt).trans (hk7 i))
      | (go_at_call 29; refine (done_ok w1.heap.size w1.heap.size _ _ (by exact Ho9.out)).mono ?_; rintro e w10 ⟨rfl, rfl⟩)))
  go_wp2_with fail
  go_ret2
  exact ⟨by unfold markL; first | rfl | (simp; done), hb01.trans (hbb9.mono hb01.size)⟩
end Go.Proofs.Ytnnnilpgnjndlaa
