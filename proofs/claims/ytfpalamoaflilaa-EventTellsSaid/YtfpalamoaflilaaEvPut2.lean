/- chapter 7: event.Put. -/
import Derived.Test.YtfpalamoaflilaaEvPut
import Derived.Test.YtfpalamoaflilaaEvCheck
namespace Go.Proofs.Ytfpalamoaflilaa
open Go.RowKit
set_option maxHeartbeats 4000000
set_option maxRecDepth 100000
set_option linter.unusedVariables false
attribute [local go_sem] run_store_flt

theorem evsL_few (l : List Ev) (h : l.all validE = true) : (evsL l).length ≤ 284 * l.length := by
  induction l with
  | nil => simp [evsL]
  | cons e l ih =>
    rw [List.all_cons, Bool.and_eq_true] at h
    have h1 := validE_size h.1
    have h2 := ih h.2
    rw [evsL_cons, List.length_append, evL_length, List.length_cons]
    omega
theorem out_newE (w : World) : OutIs (w.alloc (.cells #[.slice none 0 0, .int .i64 0] 65)) w.heap.size w.heap.size [] 0 :=
  ⟨.slice none 0 0, BlkIs.new w _ _, Nat.le_refl _, World.ownsRow_nil _ _ _ _⟩

theorem put_any (k t : Int) (s : ByteArray) (x : Int) (A : Option Addr) (n cap B : Nat) (es : List Ev) (m0 m1 m2 : Int) (w : World) (hr : SlR w B 4 A n (evVs es)) (hB : B ≤ w.heap.size) (hn : n ≤ 1000000000) (hf : ∀ e ∈ es, e.fits) (hs : s.size ≤ 9223372036854775807) :
    Calls Try.prog 23 #[.agg #[.int .i64 k, .int .i64 t, .string s, .int .i64 x, .slice A n cap, .int .i64 m0, .int .i64 m1, .int .i64 m2]] w fun e w' =>
      e = .returned (.tuple #[.string ⟨(putC ⟨k, t, s, x, es, m0, m1, m2⟩).1.toArray⟩, .int .i64 (putC ⟨k, t, s, x, es, m0, m1, m2⟩).2]) ∧ Below w.heap.size w w' := by
  have hl : es.length = n := by have := hr.len; rw [evVs_length] at this; omega
  obtain ⟨W, hW⟩ : ∃ W, w.alloc (.cells #[.int .i64 k, .int .i64 t, .string s, .int .i64 x, .slice A n cap, .int .i64 m0, .int .i64 m1, .int .i64 m2] 26) = W := ⟨_, rfl⟩
  have hM : BlkIs W w.heap.size 26 #[.int .i64 k, .int .i64 t, .string s, .int .i64 x, .slice A n cap, .int .i64 m0, .int .i64 m1, .int .i64 m2] := by rw [← hW]; exact BlkIs.new _ _ _
  have hb0 : Below w.heap.size w W := by rw [← hW]; exact (Below.refl _ _).alloc (Nat.le_refl _) _
  have hr0 := hr.below (hb0.mono hB)
  have hck := check_any k t s x A n cap B es m0 m1 m2 W hr0 (Nat.le_trans hB hb0.size) hn hf hs
  have hcW := hM.cell; have hlW := hM.lt
  by_cases hc : checkC ⟨k, t, s, x, es, m0, m1, m2⟩ = 0
  · have hp : putC ⟨k, t, s, x, es, m0, m1, m2⟩ = (cmdL ⟨k, t, s, x, es, m0, m1, m2⟩, 0) := by unfold putC; rw [if_pos hc]
    obtain ⟨⟨h1, h5⟩, hs60, hn8, hval⟩ := checkC_right hc
    dsimp only at h1 h5 hs60 hn8 hval
    rw [hc] at hck
    rw [hp]
    obtain ⟨k, rfl⟩ : ∃ q : Nat, k = q := ⟨k.toNat, by omega⟩
    obtain ⟨HD, hHD⟩ : ∃ HD, HD = [] ++ beBytes 1 k ++ be64 t ++ textL s.data.toList ++ be64 x ++ beBytes 1 n := ⟨_, rfl⟩
    have hm : cmdL ⟨k, t, s, x, es, m0, m1, m2⟩ = HD ++ evsL es ++ be64 m0 ++ be64 m1 ++ be64 m2 := by unfold cmdL headC metaL; rw [hHD, hl]; simp
    have hHl : HD.length ≤ 200 := by rw [hHD]; simp only [List.length_append, beBytes_length, be64_length, textL_length, List.length_nil, ← size_list]; omega
    have hel := evsL_few es hval
    have Hm := Lib.hid hm; have HHD := Lib.hid hHD; have HM := Lib.hid hM; have Hr := Lib.hid hr0; have Hck := Lib.hid hck; have HB0 := Lib.hid hb0; have Hf := Lib.hid hf; have Hval := Lib.hid hval; have Hl := Lib.hid hl; have Hel := Lib.hid hel; have HHl := Lib.hid hHl
    clear hm hHD hM hr hr0 hck hb0 hf hval hl hc hp hel hHl
    have hsl := size_list s
    have hk5 : k ≤ 5 := by omega
    have hnn : n ≤ 8 := by have := Hl.out; omega
    clear h1 h5 hn8
    go_enter Try.func23, Try.ntmps23
    go_wp2_with fail
    (try rw [hW])
    refine Hck.out.mono ?_
    rintro x1 w1 ⟨rfl, hb1⟩
    have M1 := Lib.hid (HM.out.below hb1 HM.out.lt)
    have Hb1 := Lib.hid (HB0.out.trans (hb1.mono HB0.out.size))
    have Hr1 := Lib.hid (Hr.out.below (hb1.mono (Nat.le_trans hB HB0.out.size)))
    have hm1 := M1.out.lt
    have HO := Lib.hid (out_newE w1).drewd
    clear hb1
    have hS0 : ∀ wx, Below w1.heap.size w1 wx → wx.cell? ⟨w.heap.size, 0, none⟩ = some (.int .i64 (k : Int)) ∧ wx.cell? ⟨w.heap.size, 1, none⟩ = some (.int .i64 t) ∧ wx.cell? ⟨w.heap.size, 2, none⟩ = some (.string s) ∧ wx.cell? ⟨w.heap.size, 3, none⟩ = some (.int .i64 x) ∧ wx.cell? ⟨w.heap.size, 4, none⟩ = some (.slice A n cap) ∧ wx.cell? ⟨w.heap.size, 5, none⟩ = some (.int .i64 m0) ∧ wx.cell? ⟨w.heap.size, 6, none⟩ = some (.int .i64 m1) ∧ wx.cell? ⟨w.heap.size, 7, none⟩ = some (.int .i64 m2) := fun wx h => by
      have hb := M1.out.below h hm1
      exact ⟨hb.cell 0, hb.cell 1, hb.cell 2, hb.cell 3, hb.cell 4, hb.cell 5, hb.cell 6, hb.cell 7⟩
    have HS := Lib.hid hS0; clear hS0
    have HB : Below w1.heap.size w1 (w1.alloc (.cells #[.slice none 0 0, .int .i64 0] 65)) := (Below.refl _ _).alloc (Nat.le_refl _) _
    have hS := HS.out _ HB
    have HB := below_drewN HB 1
    have hS' := HS.out _ HB
    clear hcW
    go_wp2_with fail
    go_region_held3 (fun wx => wx.cell? ⟨w.heap.size, 0, none⟩ = some (.int .i64 (k : Int)) ∧ wx.cell? ⟨w.heap.size, 1, none⟩ = some (.int .i64 t) ∧ wx.cell? ⟨w.heap.size, 2, none⟩ = some (.string s) ∧ wx.cell? ⟨w.heap.size, 3, none⟩ = some (.int .i64 x) ∧ wx.cell? ⟨w.heap.size, 4, none⟩ = some (.slice A n cap) ∧ wx.cell? ⟨w.heap.size, 5, none⟩ = some (.int .i64 m0) ∧ wx.cell? ⟨w.heap.size, 6, none⟩ = some (.int .i64 m1) ∧ wx.cell? ⟨w.heap.size, 7, none⟩ = some (.int .i64 m2)) (first | exact hS | exact hS' | go_keep) ((first
      | (go_at_call 61; refine (u8_t w1.heap.size w1.heap.size _ _ _ HO.out HB.size (by simp only [List.length_append, beBytes_length, be64_length, textL_length, List.length_nil]; omega) (by omega)).mono ?_; rintro x2 wx ⟨rfl, ho, hb⟩; have HO := Lib.hid ho; have HB := HB.trans hb.bel; have hS := HS.out _ HB)
      | (go_at_call 43; refine (i64_t w1.heap.size w1.heap.size _ _ _ HO.out HB.size (by simp only [List.length_append, beBytes_length, be64_length, textL_length, List.length_nil]; omega)).mono ?_; rintro x2 wx ⟨rfl, ho, hb⟩; have HO := Lib.hid ho; have HB := HB.trans hb.bel; have hS := HS.out _ HB)
      | (go_at_call 42; refine (text_t w1.heap.size w1.heap.size _ _ _ HO.out HB.size (by omega) (by simp only [List.length_append, beBytes_length, be64_length, textL_length, List.length_nil]; omega)).mono ?_; rintro x2 wx ⟨rfl, ho, hb⟩; have HO := Lib.hid ho; have HB := HB.trans hb.bel; have hS := HS.out _ HB)))
    rename World => wx
    rw [← HHD.out] at HO
    have hS2 := hS
    obtain ⟨s0, s1, s2, s3, s4, s5, s6, s7⟩ := hS
    clear s0 s1 s2 s3 s5 s6 s7 hS2
    go_wp2_with fail
    go_loopw [32] (fun i wr => ∃ m : Nat, m ≤ n ∧ i = .int .i64 m ∧ OutIs wr w1.heap.size w1.heap.size (HD ++ evsL (es.take m)) 0 ∧ Below w1.heap.size w1 wr) (fun i _ => n - (intOf i).toNat)
    case atStart => exact ⟨0, Nat.zero_le _, rfl, by simpa [evsL] using HO.out, HB⟩
    case round =>
      obtain ⟨m, hm, rfl, ho, hbel⟩ := hrel
      have Ho := Lib.hid ho; have Hbel := Lib.hid hbel
      clear ho hbel
      by_cases hlt : m < n
      · have hB1 : B ≤ w1.heap.size := Nat.le_trans hB Hb1.out.size
        obtain ⟨ad, ⟨id, ty, da, va⟩, rfl, hadB, hpk, hat⟩ := (Hr1.out.below (Hbel.out.mono hB1)).ev hlt
        have hsz := validE_size (List.all_eq_true.1 Hval.out _ (List.mem_of_getElem? hpk))
        have hfe := Hf.out _ (List.mem_of_getElem? hpk)
        have hv1 := hfe.v1
        dsimp only at hsz hv1
        have hfew := evsL_few (es.take m) (by rw [List.all_eq_true]; intro e he; exact List.all_eq_true.1 Hval.out e (List.mem_of_mem_take he))
        have hlm : (es.take m).length ≤ m := by rw [List.length_take]; omega
        have hbl : (HD ++ evsL (es.take m)).length ≤ 1000000 := by have := HHl.out; rw [List.length_append]; omega
        obtain ⟨c0, c1, c2, c3⟩ := hat
        have hbs : (ad.add (m * 4)).block < wr.heap.size := by rw [add_block]; have := Hbel.out.size; omega
        have hi1 : (m : Int) < n := by omega
        have Hpk := Lib.hid hpk
        clear hfew hlm hpk hfe
        go_wp2_with fail
        obtain ⟨we, hwe⟩ : ∃ we, wr.alloc (.cells #[.int .i64 id, .string ty, .string da, .float .f64 va] 33) = we := ⟨_, rfl⟩
        have hbe : Below wr.heap.size wr we := by rw [← hwe]; exact (Below.refl _ _).alloc (Nat.le_refl _) _
        rw [hwe]
        refine (evPut_any w1.heap.size w1.heap.size id ty da va _ we (Ho.out.under hbe (Nat.le_refl _)) (Nat.le_trans Hbel.out.size hbe.size) hbl hsz.1 hsz.2 hv1).mono ?_
        rintro x3 w3 ⟨rfl, ho3, hb3⟩
        have Ho3 := Lib.hid ho3; clear ho3
        have Hb3 := Lib.hid (Hbel.out.trans ((hbe.mono Hbel.out.size).trans hb3.bel))
        clear hb3 hbe
        go_wp2_with fail
        go_roundw
        case rel => exact ⟨m + 1, by omega, by go_num, by rw [evsL_take es m _ Hpk.out, ← List.append_assoc]; exact Ho3.out, Hb3.out⟩
        case measure => simp [intOf]; omega
      · obtain rfl : m = n := by omega
        have HO : Hid (OutIs wr w1.heap.size w1.heap.size (HD ++ evsL es) 0) := Lib.hid (by have := Ho.out; rwa [List.take_of_length_le (by have := Hl.out; omega)] at this)
        have hbl : (HD ++ evsL es).length ≤ 900000 := by have := HHl.out; have := Hel.out; have := Hl.out; rw [List.length_append]; omega
        have HO0 := HO
        have HO := Lib.hid HO.out.drewd
        have HB := below_drewN Hbel.out 1
        have hS := HS.out _ Hbel.out
        have hS' := HS.out _ HB
        clear s4
        go_wp2_with fail
        go_region_held3 (fun wx => wx.cell? ⟨w.heap.size, 0, none⟩ = some (.int .i64 (k : Int)) ∧ wx.cell? ⟨w.heap.size, 1, none⟩ = some (.int .i64 t) ∧ wx.cell? ⟨w.heap.size, 2, none⟩ = some (.string s) ∧ wx.cell? ⟨w.heap.size, 3, none⟩ = some (.int .i64 x) ∧ wx.cell? ⟨w.heap.size, 4, none⟩ = some (.slice A m cap) ∧ wx.cell? ⟨w.heap.size, 5, none⟩ = some (.int .i64 m0) ∧ wx.cell? ⟨w.heap.size, 6, none⟩ = some (.int .i64 m1) ∧ wx.cell? ⟨w.heap.size, 7, none⟩ = some (.int .i64 m2)) (first | exact hS | exact hS' | go_keep) ((first
          | (go_at_call 43; refine (i64_t w1.heap.size w1.heap.size _ _ _ HO.out HB.size (by simp only [List.length_append, be64_length] at hbl ⊢; omega)).mono ?_; rintro x2 wx ⟨rfl, ho, hb⟩; have HO := Lib.hid ho; have HB := HB.trans hb.bel; have hS := HS.out _ HB)
          | (go_at_call 44; refine (done_ok w1.heap.size w1.heap.size _ _ HO.out).mono ?_; rintro x2 wx ⟨rfl, rfl⟩)))
        all_goals
          go_wp2_with fail
          go_ret2
          rw [Hm.out]
          exact ⟨by simp, Hb1.out.trans (HB.mono Hb1.out.size)⟩
  · have hp := putC_bad hc
    rw [hp]
    have hne : (checkC ⟨k, t, s, x, es, m0, m1, m2⟩ != 0) = true := by rw [bne_iff_ne]; exact hc
    obtain ⟨E, hE⟩ : ∃ E, checkC ⟨k, t, s, x, es, m0, m1, m2⟩ = E := ⟨_, rfl⟩
    rw [hE] at hck hne ⊢
    have Hck := Lib.hid hck; have HB0 := Lib.hid hb0
    clear hp hM hr hr0 hck hb0 hf hc hE
    go_enter Try.func23, Try.ntmps23
    go_wp2_with fail
    (try rw [hW])
    refine Hck.out.mono ?_
    rintro x1 w1 ⟨rfl, hb1⟩
    go_wp2_with fail
    go_ret2
    exact ⟨rfl, HB0.out.trans (hb1.mono HB0.out.size)⟩
end Go.Proofs.Ytfpalamoaflilaa
