/- chapter 8: alive, walked. -/
import Derived.Test.YtfkdkhcpmoohiaaFrameAll
import Derived.Test.YtfkdkhcpmoohiaaFrameLast
import Derived.Test.YtfkdkhcpmoohiaaBook
namespace Go.Proofs.Ytfkdkhcpmoohiaa
open Go.RowKit
set_option maxHeartbeats 400000
set_option maxRecDepth 100000
set_option linter.unusedVariables false


theorem putL_ok {b : List UInt8} (h : b.length ≤ 4000) : putL b = (frameL b, 0) := by unfold putL; rw [if_neg (by omega)]

theorem alive8_any (w : World) :
    Calls Try.prog 8 #[] w fun e w' => e = .returned (.bool true) ∧ Below w.heap.size w w' := by
  have hF : (frameL [97, 98]).length = 14 := frameL_length _
  have h1 := first_frame [97, 98] [120] (by decide)
  have h2 := last_frame [97, 98] [120] (by decide)
  have hp := putL_ok (b := [97, 98]) (by decide)
  generalize frameL [97, 98] = F at hF h1 h2 hp
  have HF := Lib.hid hF; have H1 := Lib.hid h1; have H2 := Lib.hid h2; have Hp := Lib.hid hp
  have hF' : F.length ≤ 14 := by omega
  have hF2 : ((F.length : Int) == 14) = true := by rw [hF]; rfl
  clear hF h1 h2 hp
  go_enter Try.func8, Try.ntmps8
  go_wp2_with fail
  refine (fput_any _ _ (by decide)).mono ?_
  rintro e w1 ⟨rfl, hb1⟩
  rw [show putL _ = _ from Hp.out]
  go_wp2_with fail
  refine (first_any _ _ (by rw [ByteArray.size_append, size_mk]; show F.length + 1 ≤ _; omega)).mono ?_
  rintro e w2 ⟨rfl, hb2⟩
  rw [show firstL (⟨F.toArray⟩ ++ ⟨#[120]⟩ : ByteArray).data.toList = ([97, 98], 14, 0) from by rw [show (⟨F.toArray⟩ ++ ⟨#[120]⟩ : ByteArray).data.toList = F ++ [120] from by simp]; exact H1.out]
  go_wp2_with fail
  refine (last_any _ _ (by rw [ByteArray.size_append, size_mk]; show 1 + F.length ≤ _; omega)).mono ?_
  rintro e w3 ⟨rfl, hb3⟩
  rw [show lastL (⟨#[120]⟩ ++ ⟨F.toArray⟩ : ByteArray).data.toList = ([97, 98], 14, 0) from by rw [show (⟨#[120]⟩ ++ ⟨F.toArray⟩ : ByteArray).data.toList = [120] ++ F from by simp]; exact H2.out]
  go_wp2_with fail
  go_ret
  exact ⟨rfl, hb1.trans ((hb2.trans (hb3.mono hb2.size)).mono hb1.size)⟩
/-- texts as lists of bytes -/
def bodies (ss : List ByteArray) : List (List UInt8) := ss.map (·.data.toList)
theorem bodies_take (ss : List ByteArray) (k : Nat) (s : ByteArray) (h : ss[k]? = some s) : bodies (ss.take (k + 1)) = bodies (ss.take k) ++ [s.data.toList] := by
  unfold bodies; rw [List.take_add_one, h, List.map_append]; rfl
theorem layAll_length (l : List (List UInt8)) : (layAll l).length = l.flatten.length + 12 * l.length := by
  induction l with
  | nil => rfl
  | cons b l ih => rw [layAll_cons, List.length_append, frameL_length, ih]; simp only [List.flatten_cons, List.length_append, List.length_cons]; omega
theorem layAll_bodies (ss : List ByteArray) : (layAll (bodies ss)).length = bytesOf ss + 12 * ss.length := by
  rw [layAll_length, show (bodies ss).flatten = joinL ss from rfl, joinL_length]; simp [bodies]
theorem layAll_take_le (ss : List ByteArray) (k few room : Nat) (h1 : ss.length ≤ few) (h2 : bytesOf ss ≤ room) : (layAll (bodies (ss.take k))).length ≤ room + 12 * few := by
  rw [layAll_bodies]
  have := bytesOf_mono ss k
  have : (ss.take k).length ≤ ss.length := by rw [List.length_take]; omega
  omega
theorem layAll_snoc (l : List (List UInt8)) (b : List UInt8) : layAll (l ++ [b]) = layAll l ++ frameL b := by rw [layAll_append]; simp [layAll]
end Go.Proofs.Ytfkdkhcpmoohiaa
