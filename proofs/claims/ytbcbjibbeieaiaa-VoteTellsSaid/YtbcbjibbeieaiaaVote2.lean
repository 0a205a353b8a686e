/- package vote: Put, one, walked. -/
import Derived.Test.YtbcbjibbeieaiaaVote
import Derived.Test.YtbcbjibbeieaiaaInEnd
import Derived.Deep.RegionHeld3
namespace Go.Proofs.Ytbcbjibbeieaiaa
open Go.RowKit
set_option maxHeartbeats 1000000
set_option maxRecDepth 100000
set_option linter.unusedVariables false

theorem putV_any (t f : Int) (w : World) :
    Calls Try.prog 11 #[.agg #[.int .i64 t, .int .i64 f]] w fun e w' =>
      e = .returned (.tuple #[.string ⟨(putV (t, f)).1.toArray⟩, .int .i64 (putV (t, f)).2]) ∧ Below w.heap.size w w' := by
  have hr := rightV_any t f (w.alloc (.cells #[.int .i64 t, .int .i64 f] 32))
  cases h : rightV (t, f) with
  | false =>
    have hv : putV (t, f) = ([], 1) := by unfold putV; rw [h]; rfl
    rw [h] at hr
    have Hv := Lib.hid hv; have Hr := Lib.hid hr
    clear hv h hr
    go_enter Try.func11, Try.ntmps11
    go_wp2_with fail
    refine Hr.out.mono ?_
    rintro e w1 ⟨rfl, hb1⟩
    go_wp2_with fail
    go_ret2
    rw [Hv.out]
    exact ⟨rfl, ((Below.refl _ _).alloc (Nat.le_refl _) _).trans (hb1.mono (by simp))⟩
  | true =>
    have hv : putV (t, f) = (frameL (ballotL (t, f)), 0) := by unfold putV; rw [h]; rfl
    have hbl := ballotL_length (t, f)
    have hp : putL (ballotL (t, f)) = (frameL (ballotL (t, f)), 0) := by unfold putL; rw [if_neg (by omega)]
    have hbe : be64 t ++ be64 f = ballotL (t, f) := rfl
    rw [h] at hr
    have Hv := Lib.hid hv; have Hr := Lib.hid hr; have Hp := Lib.hid hp; have Hbe := Lib.hid hbe; have Hbl := Lib.hid hbl
    clear hv h hr hp hbe hbl
    go_enter Try.func11, Try.ntmps11
    go_wp2_with fail
    refine Hr.out.mono ?_
    rintro e w1 ⟨rfl, hb1⟩
    have hB := (BlkIs.new w 32 #[.int .i64 t, .int .i64 f]).below hb1 (by simp)
    have hb01 : Below w.heap.size w w1 := ((Below.refl _ _).alloc (Nat.le_refl _) _).trans (hb1.mono (by simp))
    have hlt : w.heap.size < w1.heap.size := hB.lt
    have hc0 := (hB.alloc (.cells #[.slice none 0 0, .int .i64 0] 62)).cell 0
    have hc1 := (hB.alloc (.cells #[.slice none 0 0, .int .i64 0] 62)).cell 1
    simp at hc0 hc1
    clear hB hb1
    have tok1 : True := trivial
    go_wp2_with fail
    go_region_held3 (fun wx => wx.cell? ⟨w.heap.size, 0, none⟩ = some (.int .i64 t) ∧ wx.cell? ⟨w.heap.size, 1, none⟩ = some (.int .i64 f))
      (first | go_keep | exact ⟨hk0, hk1⟩ | exact ⟨hj0, hj1⟩)
      ((first
        | (have _t := tok1; clear tok1 _t; go_at_call 27; refine (outI64_any w1.heap.size w1.heap.size t [] _ (by exact out_new' w1) (by simp <;> omega) (by simp)).mono ?_; rintro e w2 ⟨rfl, ho2, hb2⟩; have Ho2 := Lib.hid ho2; clear ho2; have hk0 : w2.cell? ⟨w.heap.size, 0, none⟩ = some (.int .i64 t) := (hb2.cell (p := ⟨w.heap.size, 0, none⟩) hlt).trans hc0; have hk1 : w2.cell? ⟨w.heap.size, 1, none⟩ = some (.int .i64 f) := (hb2.cell (p := ⟨w.heap.size, 1, none⟩) hlt).trans hc1; have hbb : Below w1.heap.size w1 w2 := ((Below.refl _ _).alloc (Nat.le_refl _) _).trans (below_undrew hb2))
        | (go_at_call 27; refine (outI64_any w1.heap.size w1.heap.size f _ _ (by exact Ho2.out) hbb.size (by simp [be64_length])).mono ?_; rintro e w3 ⟨rfl, ho3, hb3⟩; have Ho3 := Lib.hid ho3; clear ho3; have hj0 : w3.cell? ⟨w.heap.size, 0, none⟩ = some (.int .i64 t) := (hb3.cell (p := ⟨w.heap.size, 0, none⟩) hlt).trans hk0; have hj1 : w3.cell? ⟨w.heap.size, 1, none⟩ = some (.int .i64 f) := (hb3.cell (p := ⟨w.heap.size, 1, none⟩) hlt).trans hk1)
        | (go_at_call 28; refine (done_ok w1.heap.size w1.heap.size _ _ (by exact Ho3.out)).mono ?_; rintro e w4 ⟨rfl, rfl⟩)))
    go_wp2_with fail
    rw [Hbe.out]
    refine (fput_any _ _ (by rw [size_mk, Hbl.out]; decide)).mono ?_
    rintro e w5 ⟨rfl, hb5⟩
    rw [show putL (ByteArray.mk (ballotL (t, f)).toArray).data.toList = _ from Hp.out]
    go_wp2_with fail
    go_ret2
    rw [Hv.out]
    have h3 := hb01.trans ((hbb.trans hb3).mono hb01.size)
    exact ⟨rfl, h3.trans (hb5.mono h3.size)⟩
end Go.Proofs.Ytbcbjibbeieaiaa
