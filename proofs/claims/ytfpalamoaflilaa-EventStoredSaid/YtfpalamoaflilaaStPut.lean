/- chapter 7: event.PutStored. -/
import Derived.Test.YtfpalamoaflilaaEvPut2
import Derived.Test.YtfpalamoaflilaaStLaw
namespace Go.Proofs.Ytfpalamoaflilaa
open Go.RowKit
set_option maxHeartbeats 4000000
set_option maxRecDepth 100000
set_option linter.unusedVariables false
attribute [local go_sem] run_store_flt

def stC (x : St) : List Value := [.int .i64 x.ev.id, .string x.ev.ty, .string x.ev.da, .float .f64 x.ev.va, .string x.s, .int .i64 x.v, .int .i64 x.p, .int .i64 x.t]
def stA (x : St) : Value := .agg #[.int .i64 x.ev.id, .string x.ev.ty, .string x.ev.da, .float .f64 x.ev.va, .string x.s, .int .i64 x.v, .int .i64 x.p, .int .i64 x.t]

theorem stored_any (x : St) (w : World) (hf : x.fits) :
    Calls Try.prog 40 #[stA x] w fun e w' => e = .returned (.bool (okS x)) ∧ Below w.heap.size w w' := by
  obtain ⟨⟨id, ty, da, va⟩, s, v, p, t⟩ := x
  have ht := hf.ev.t1; have hd := hf.ev.d1; have hs := hf.s1
  dsimp only at ht hd hs
  have hva := fun w => valid_any id ty da va w ht hd
  have hna := fun w => stream_any s w hs
  have hwv := fun w => within_any v w; have hwp := fun w => within_any p w; have hwt := fun w => within_any t w
  unfold okS stA
  dsimp only
  generalize validE ⟨id, ty, da, va⟩ = q1 at hva ⊢
  generalize nameB s = q2 at hna ⊢
  generalize withinB v = q3 at hwv ⊢
  generalize withinB p = q4 at hwp ⊢
  generalize withinB t = q5 at hwt ⊢
  obtain ⟨W, hW⟩ : ∃ W, w.alloc (.cells #[.int .i64 id, .string ty, .string da, .float .f64 va, .string s, .int .i64 v, .int .i64 p, .int .i64 t] 38) = W := ⟨_, rfl⟩
  have hM : BlkIs W w.heap.size 38 #[.int .i64 id, .string ty, .string da, .float .f64 va, .string s, .int .i64 v, .int .i64 p, .int .i64 t] := by rw [← hW]; exact BlkIs.new _ _ _
  have hb0 : Below w.heap.size w W := by rw [← hW]; exact (Below.refl _ _).alloc (Nat.le_refl _) _
  have HM := Lib.hid hM; have HB0 := Lib.hid hb0; have Hva := Lib.hid hva; have Hna := Lib.hid hna; have Hwv := Lib.hid hwv; have Hwp := Lib.hid hwp; have Hwt := Lib.hid hwt
  have hcW := hM.cell; have hlW := hM.lt
  clear hM hb0 hva hna hwv hwp hwt hf ht hd hs
  go_enter Try.func40, Try.ntmps40
  go_wp2_with fail
  (try rw [hW])
  refine (Hva.out _).mono ?_
  rintro e w1 ⟨rfl, hb1⟩
  have M1 := Lib.hid (HM.out.below hb1 HM.out.lt)
  have B1 := Lib.hid (HB0.out.trans (hb1.mono HB0.out.size))
  have hc1 := M1.out.cell; have hl1 := M1.out.lt
  clear hb1 hcW hW
  cases q1 with
  | false =>
    go_wp2_with fail
    go_ret
    exact ⟨by simp, B1.out⟩
  | true =>
    go_wp2_with fail
    refine (Hna.out _).mono ?_
    rintro e w2 ⟨rfl, rfl⟩
    cases q2 with
    | false =>
      go_wp2_with fail
      go_ret
      exact ⟨by simp, B1.out⟩
    | true =>
      go_wp2_with fail
      refine (Hwv.out _).mono ?_
      rintro e w2 ⟨rfl, rfl⟩
      cases q3 with
      | false =>
        go_wp2_with fail
        go_ret
        exact ⟨by simp, B1.out⟩
      | true =>
        go_wp2_with fail
        refine (Hwp.out _).mono ?_
        rintro e w2 ⟨rfl, rfl⟩
        cases q4 with
        | false =>
          go_wp2_with fail
          go_ret
          exact ⟨by simp, B1.out⟩
        | true =>
          go_wp2_with fail
          refine (Hwt.out _).mono ?_
          rintro e w2 ⟨rfl, rfl⟩
          go_wp2_with fail
          go_ret
          exact ⟨by simp, B1.out⟩

theorem putStored_any (x : St) (w : World) (hf : x.fits) :
    Calls Try.prog 15 #[stA x] w fun e w' => e = .returned (.tuple #[.string ⟨(putS x).1.toArray⟩, .int .i64 (putS x).2]) ∧ Below w.heap.size w w' := by
  obtain ⟨W, hW⟩ : ∃ W, w.alloc (.cells #[.int .i64 x.ev.id, .string x.ev.ty, .string x.ev.da, .float .f64 x.ev.va, .string x.s, .int .i64 x.v, .int .i64 x.p, .int .i64 x.t] 38) = W := ⟨_, rfl⟩
  have hM : BlkIs W w.heap.size 38 #[.int .i64 x.ev.id, .string x.ev.ty, .string x.ev.da, .float .f64 x.ev.va, .string x.s, .int .i64 x.v, .int .i64 x.p, .int .i64 x.t] := by rw [← hW]; exact BlkIs.new _ _ _
  have hb0 : Below w.heap.size w W := by rw [← hW]; exact (Below.refl _ _).alloc (Nat.le_refl _) _
  have hst := stored_any x W hf
  by_cases hc : okS x = true
  · have hp : putS x = (stL x, 0) := by unfold putS; rw [if_pos hc]
    obtain ⟨h1, h2⟩ := okS_size hc
    obtain ⟨h3, h4⟩ := validE_size h1
    have hv1 := hf.ev.v1
    rw [hc] at hst
    rw [hp]
    unfold stL
    obtain ⟨⟨id, ty, da, va⟩, s, v, p, t⟩ := x
    unfold stA at hst ⊢
    dsimp only at *
    have hel : (evL ⟨id, ty, da, va⟩).length ≤ 300 := by rw [evL_length]; dsimp only; omega
    have HM := Lib.hid hM; have HB0 := Lib.hid hb0; have Hst := Lib.hid hst
    have hcW := hM.cell; have hlW := hM.lt
    have hss := size_list s
    clear hM hb0 hst hp hc h1 hf
    go_enter Try.func15, Try.ntmps15
    go_wp2_with fail
    (try rw [hW])
    refine Hst.out.mono ?_
    rintro x1 w1 ⟨rfl, hb1⟩
    have M1 := Lib.hid (HM.out.below hb1 HM.out.lt)
    have Hb1 := Lib.hid (HB0.out.trans (hb1.mono HB0.out.size))
    have hm1 := M1.out.lt
    have HO := Lib.hid (out_newE w1)
    have hS0 : ∀ wx, Below w1.heap.size w1 wx → BlkIs wx w.heap.size 38 #[.int .i64 id, .string ty, .string da, .float .f64 va, .string s, .int .i64 v, .int .i64 p, .int .i64 t] := fun wx h => M1.out.below h hm1
    have HS := Lib.hid hS0
    have hc1 := (hS0 _ ((Below.refl w1.heap.size w1).alloc (Nat.le_refl _) (.cells #[.slice none 0 0, .int .i64 0] 65))).cell
    clear hb1 hS0 hcW hW
    go_wp2_with fail
    obtain ⟨wo, hwo⟩ : ∃ wo, w1.alloc (.cells #[.slice none 0 0, .int .i64 0] 65) = wo := ⟨_, rfl⟩
    have hbo : Below w1.heap.size w1 wo := by rw [← hwo]; exact (Below.refl _ _).alloc (Nat.le_refl _) _
    rw [hwo] at HO hc1 ⊢
    refine (evPut_any w1.heap.size w1.heap.size id ty da va [] wo HO.out hbo.size (by simp) h3 h4 hv1).mono ?_
    rintro x2 w2 ⟨rfl, ho2, hb2⟩
    have HB2 := Lib.hid (hbo.trans hb2.bel)
    have HO := Lib.hid ho2.drewd
    clear hc1 hbo hwo ho2 hb2
    have hS0 : ∀ wx, Below w1.heap.size w1 wx → wx.cell? ⟨w.heap.size, 4, none⟩ = some (.string s) ∧ wx.cell? ⟨w.heap.size, 5, none⟩ = some (.int .i64 v) ∧ wx.cell? ⟨w.heap.size, 6, none⟩ = some (.int .i64 p) ∧ wx.cell? ⟨w.heap.size, 7, none⟩ = some (.int .i64 t) := fun wx h => by
      have f := (HS.out wx h).cell
      exact ⟨f 4, f 5, f 6, f 7⟩
    have HS4 := Lib.hid hS0
    have hS := HS4.out _ HB2.out
    have HB := below_drewN HB2.out 1
    have hS' := HS4.out _ HB
    clear hS0
    go_wp2_with fail
    go_region_held3 (fun wx => wx.cell? ⟨w.heap.size, 4, none⟩ = some (.string s) ∧ wx.cell? ⟨w.heap.size, 5, none⟩ = some (.int .i64 v) ∧ wx.cell? ⟨w.heap.size, 6, none⟩ = some (.int .i64 p) ∧ wx.cell? ⟨w.heap.size, 7, none⟩ = some (.int .i64 t)) (first | exact hS | exact hS' | go_keep) ((first
      | (go_at_call 42; refine (text_t w1.heap.size w1.heap.size _ _ _ HO.out HB.size (by omega) (by simp only [List.length_append, be64_length, textL_length, List.length_nil]; omega)).mono ?_; rintro x2 wx ⟨rfl, ho, hb⟩; have HO := Lib.hid ho; have HB := HB.trans hb.bel; have hS := HS4.out _ HB)
      | (go_at_call 43; refine (i64_t w1.heap.size w1.heap.size _ _ _ HO.out HB.size (by simp only [List.length_append, be64_length, textL_length, List.length_nil]; omega)).mono ?_; rintro x2 wx ⟨rfl, ho, hb⟩; have HO := Lib.hid ho; have HB := HB.trans hb.bel; have hS := HS4.out _ HB)
      | (go_at_call 44; refine (done_ok w1.heap.size w1.heap.size _ _ HO.out).mono ?_; rintro x2 wx ⟨rfl, rfl⟩)))
    all_goals
      go_wp2_with fail
      go_ret2
      exact ⟨by simp, Hb1.out.trans (HB.mono Hb1.out.size)⟩
  · have hp : putS x = ([], 1) := by unfold putS; rw [if_neg hc]
    have hc' : okS x = false := by simpa using hc
    rw [hc'] at hst
    rw [hp]
    have HM := Lib.hid hM; have HB0 := Lib.hid hb0; have Hst := Lib.hid hst
    have hcW := hM.cell; have hlW := hM.lt
    unfold stA at Hst ⊢
    clear hM hb0 hst hp hc hc' hf
    go_enter Try.func15, Try.ntmps15
    go_wp2_with fail
    (try rw [hW])
    refine Hst.out.mono ?_
    rintro x1 w1 ⟨rfl, hb1⟩
    have Hb1 := Lib.hid (HB0.out.trans (hb1.mono HB0.out.size))
    clear hb1
    go_wp2_with fail
    go_ret2
    exact ⟨rfl, Hb1.out⟩
end Go.Proofs.Ytfpalamoaflilaa
