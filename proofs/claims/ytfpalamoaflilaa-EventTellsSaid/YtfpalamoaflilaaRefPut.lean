/- chronicleref7: a command laid (printed by mkrefput.py). -/
import Derived.Test.YtfpalamoaflilaaRefCkA
import Derived.Test.YtfpalamoaflilaaEvPut2
namespace Go.Proofs.Ytfpalamoaflilaa
open Go.RowKit
set_option maxHeartbeats 4000000
set_option maxRecDepth 100000
set_option linter.unusedVariables false
attribute [local go_sem] run_store_flt

theorem refNum1_t (g base n : Nat) (bs : List UInt8) (w : World) (h : RoutIs w base g bs 0) (hb : base ≤ w.heap.size) (hl : bs.length + 1 ≤ 1000000000) (hn : n < 256) :
    Calls Try.prog 48 #[.pointer (some ⟨g, 0, none⟩), .int .u64 (n : Int), .int .i64 1] w fun e w' =>
      e = .returned (.tuple #[]) ∧ RoutIs w' base g (bs ++ beBytes 1 n) 0 ∧ OutRStep base w w' := refNum_t g base 1 n bs w h hb hl (by omega) (by omega)

theorem refPut_any (k t : Int) (s : ByteArray) (x : Int) (A : Option Addr) (n cap B : Nat) (es : List Ev) (m0 m1 m2 : Int) (w : World) (hr : SlR w B 4 A n (evVs es)) (hB : B ≤ w.heap.size) (hn : n ≤ 1000000000) (hf : ∀ e ∈ es, e.fits) (hs : s.size ≤ 9223372036854775807) :
    Calls Try.prog 24 #[.agg #[.int .i64 k, .int .i64 t, .string s, .int .i64 x, .slice A n cap, .int .i64 m0, .int .i64 m1, .int .i64 m2]] w fun e w' =>
      e = .returned (.tuple #[.string ⟨(putC ⟨k, t, s, x, es, m0, m1, m2⟩).1.toArray⟩, .int .i64 (putC ⟨k, t, s, x, es, m0, m1, m2⟩).2]) ∧ Below w.heap.size w w' := by
  have hl : es.length = n := by have := hr.len; rw [evVs_length] at this; omega
  obtain ⟨W, hW⟩ : ∃ W, w.alloc (.cells #[.int .i64 k, .int .i64 t, .string s, .int .i64 x, .slice A n cap, .int .i64 m0, .int .i64 m1, .int .i64 m2] 26) = W := ⟨_, rfl⟩
  have hM : BlkIs W w.heap.size 26 #[.int .i64 k, .int .i64 t, .string s, .int .i64 x, .slice A n cap, .int .i64 m0, .int .i64 m1, .int .i64 m2] := by rw [← hW]; exact BlkIs.new _ _ _
  have hb0 : Below w.heap.size w W := by rw [← hW]; exact (Below.refl _ _).alloc (Nat.le_refl _) _
  have hr0 := hr.below (hb0.mono hB)
  have hck := refCheck_any k t s x A n cap B es m0 m1 m2 W hr0 (Nat.le_trans hB hb0.size) hn hf hs
  have hcW := hM.cell; have hlW := hM.lt
  by_cases hc : checkC ⟨k, t, s, x, es, m0, m1, m2⟩ = 0
  · have hp : putC ⟨k, t, s, x, es, m0, m1, m2⟩ = (cmdL ⟨k, t, s, x, es, m0, m1, m2⟩, 0) := by unfold putC; rw [if_pos hc]
    obtain ⟨⟨h1, h5⟩, hs60, hn8, hval⟩ := checkC_right hc
    dsimp only at h1 h5 hs60 hn8 hval
    rw [hc] at hck
    rw [hp]
    obtain ⟨k, rfl⟩ : ∃ q : Nat, k = q := ⟨k.toNat, by omega⟩
    obtain ⟨HD, hHD⟩ : ∃ HD, HD = [] ++ beBytes 1 k ++ be64 t ++ textL s.data.toList ++ be64 x ++ beBytes 1 n := ⟨_, rfl⟩
    have hm : cmdL ⟨k, t, s, x, es, m0, m1, m2⟩ = HD ++ evsL es ++ be64 m0 ++ be64 m1 ++ be64 m2 := by unfold cmdL headC metaL; rw [hHD, hl]; simp
    have hHl : HD.length ≤ 200 := by rw [hHD]; simp only [List.length_append, beBytes_length, be64_length, textL_length, List.length_nil, ← size_list]; omega
    have hel := evsL_few es hval
    have Hm := Lib.hid hm; have HHD := Lib.hid hHD; have HM := Lib.hid hM; have Hr := Lib.hid hr0; have Hck := Lib.hid hck; have HB0 := Lib.hid hb0; have Hf := Lib.hid hf; have Hval := Lib.hid hval; have Hl := Lib.hid hl; have Hel := Lib.hid hel; have HHl := Lib.hid hHl
    clear hm hHD hM hr hr0 hck hb0 hf hval hl hc hp hel hHl
    have hsl := size_list s
    have hk5 : k ≤ 5 := by omega
    have hnn : n ≤ 8 := by have := Hl.out; omega
    have wk : IntKind.u64.wrap (k : Int) = (k : Int) := IntWalk.u64_in _ (by omega)
    have wn : IntKind.u64.wrap (n : Int) = (n : Int) := IntWalk.u64_in _ (by omega)
    clear h1 h5 hn8
    go_enter Try.func24, Try.ntmps24
    go_wp2_with fail
    (try rw [hW])
    refine Hck.out.mono ?_
    rintro x1 w1 ⟨rfl, hb1⟩
    have M1 := Lib.hid (HM.out.below hb1 HM.out.lt)
    have Hb1 := Lib.hid (HB0.out.trans (hb1.mono HB0.out.size))
    have Hr1 := Lib.hid (Hr.out.below (hb1.mono (Nat.le_trans hB HB0.out.size)))
    have hm1 := M1.out.lt
    have hc1 := M1.out.cell
    clear hb1 hcW hW
    obtain ⟨wo, hwo⟩ : ∃ wo, w1.alloc (.cells #[.slice none 0 0, .int .i64 0] 73) = wo := ⟨_, rfl⟩
    have hbo : Below w1.heap.size w1 wo := by rw [← hwo]; exact (Below.refl _ _).alloc (Nat.le_refl _) _
    have hO := rout_new w1
    rw [hwo] at hO
    have M2 := Lib.hid (M1.out.below hbo hm1); have O2 := Lib.hid hO; have B2 := Lib.hid hbo
    have hc2 := M2.out.cell
    have hz2 : w1.heap.size ≤ wo.heap.size := hbo.size
    clear hO hbo
    go_wp2_with fail
    (try rw [hwo])
    clear hwo hc1
    refine (refNum1_t w1.heap.size w1.heap.size k _ wo O2.out hz2 (by simp only [List.length_append, List.length_nil, textL_length, be64_length, beBytes_length]; omega) (by omega)).mono ?_
    rintro e w3 ⟨rfl, ho, hb⟩
    have M3 := Lib.hid (M2.out.typR hb (by decide) (by decide)); have O3 := Lib.hid ho; have B3 := Lib.hid (B2.out.trans hb.bel)
    have hc3 := M3.out.cell
    have hz3 : w1.heap.size ≤ w3.heap.size := B3.out.size
    clear ho hb hc2
    go_wp2_with fail
    refine (refNumI_t w1.heap.size w1.heap.size t _ w3 O3.out hz3 (by simp only [List.length_append, List.length_nil, textL_length, be64_length, beBytes_length]; omega)).mono ?_
    rintro e w4 ⟨rfl, ho, hb⟩
    have M4 := Lib.hid (M3.out.typR hb (by decide) (by decide)); have O4 := Lib.hid ho; have B4 := Lib.hid (B3.out.trans hb.bel)
    have hc4 := M4.out.cell
    have hz4 : w1.heap.size ≤ w4.heap.size := B4.out.size
    clear ho hb hc3
    go_wp2_with fail
    refine (refOutText_t w1.heap.size w1.heap.size _ s w4 O4.out hz4 (by omega) (by simp only [List.length_append, List.length_nil, textL_length, be64_length, beBytes_length]; omega)).mono ?_
    rintro e w5 ⟨rfl, ho, hb⟩
    have M5 := Lib.hid (M4.out.typR hb (by decide) (by decide)); have O5 := Lib.hid ho; have B5 := Lib.hid (B4.out.trans hb.bel)
    have hc5 := M5.out.cell
    have hz5 : w1.heap.size ≤ w5.heap.size := B5.out.size
    clear ho hb hc4
    go_wp2_with fail
    refine (refNumI_t w1.heap.size w1.heap.size x _ w5 O5.out hz5 (by simp only [List.length_append, List.length_nil, textL_length, be64_length, beBytes_length]; omega)).mono ?_
    rintro e w6 ⟨rfl, ho, hb⟩
    have M6 := Lib.hid (M5.out.typR hb (by decide) (by decide)); have O6 := Lib.hid ho; have B6 := Lib.hid (B5.out.trans hb.bel)
    have hc6 := M6.out.cell
    have hz6 : w1.heap.size ≤ w6.heap.size := B6.out.size
    clear ho hb hc5
    go_wp2_with fail
    refine (refNum1_t w1.heap.size w1.heap.size n _ w6 O6.out hz6 (by simp only [List.length_append, List.length_nil, textL_length, be64_length, beBytes_length]; omega) (by omega)).mono ?_
    rintro e w7 ⟨rfl, ho, hb⟩
    have M7 := Lib.hid (M6.out.typR hb (by decide) (by decide)); have O7 := Lib.hid ho; have B7 := Lib.hid (B6.out.trans hb.bel)
    have hc7 := M7.out.cell
    have hz7 : w1.heap.size ≤ w7.heap.size := B7.out.size
    clear ho hb hc6
    go_wp2_with fail
    have HO : Hid (RoutIs w7 w1.heap.size w1.heap.size HD 0) := Lib.hid (by have := O7.out; rwa [← HHD.out] at this)
    clear hc7
    go_loopw [6] (fun i wr => ∃ m : Nat, m ≤ n ∧ i = .int .i64 m ∧ RoutIs wr w1.heap.size w1.heap.size (HD ++ evsL (es.take m)) 0 ∧ BlkIs wr w.heap.size 26 #[.int .i64 (k : Int), .int .i64 t, .string s, .int .i64 x, .slice A n cap, .int .i64 m0, .int .i64 m1, .int .i64 m2] ∧ Below w1.heap.size w1 wr) (fun i _ => n - (intOf i).toNat)
    case atStart => exact ⟨0, Nat.zero_le _, rfl, by simpa [evsL] using HO.out, M7.out, B7.out⟩
    case round =>
      obtain ⟨m, hm, rfl, ho, hM, hbel⟩ := hrel
      have hcr := hM.cell
      have Ho := Lib.hid ho; have Hbel := Lib.hid hbel; have M8 := Lib.hid hM
      clear ho hbel hM
      by_cases hlt : m < n
      · have hB1 : B ≤ w1.heap.size := Nat.le_trans hB Hb1.out.size
        obtain ⟨ad, ⟨id, ty, da, va⟩, rfl, hadB, hpk, hat⟩ := (Hr1.out.below (Hbel.out.mono hB1)).ev hlt
        have hsz := validE_size (List.all_eq_true.1 Hval.out _ (List.mem_of_getElem? hpk))
        have hfe := Hf.out _ (List.mem_of_getElem? hpk)
        have hv1 := hfe.v1
        dsimp only at hsz hv1
        have hfew := evsL_few (es.take m) (by rw [List.all_eq_true]; intro e he; exact List.all_eq_true.1 Hval.out e (List.mem_of_mem_take he))
        have hlm : (es.take m).length ≤ m := by rw [List.length_take]; omega
        have hbl : (HD ++ evsL (es.take m)).length ≤ 1000000 := by have := HHl.out; rw [List.length_append]; omega
        obtain ⟨c0, c1, c2, c3⟩ := hat
        have hbs : (ad.add (m * 4)).block < wr.heap.size := by rw [add_block]; have := Hbel.out.size; omega
        have hi1 : (m : Int) < n := by omega
        have Hpk := Lib.hid hpk
        clear hfew hlm hpk hfe
        go_wp2_with fail
        refine (refLay7_any w1.heap.size w1.heap.size id ty da va _ wr Ho.out Hbel.out.size hbl hsz.1 hsz.2 hv1).mono ?_
        rintro x3 w9 ⟨rfl, ho3, hb3⟩
        have Ho3 := Lib.hid ho3; have M9 := Lib.hid (M8.out.typR hb3 (by decide) (by decide)); have B9 := Lib.hid (Hbel.out.trans hb3.bel)
        clear ho3 hb3 hcr
        go_wp2_with fail
        go_roundw
        case rel => exact ⟨m + 1, by omega, by go_num, by rw [evsL_take es m _ Hpk.out, ← List.append_assoc]; exact Ho3.out, M9.out, B9.out⟩
        case measure => simp [intOf]; omega
      · obtain rfl : m = n := by omega
        have O10 : Hid (RoutIs wr w1.heap.size w1.heap.size (HD ++ evsL es) 0) := Lib.hid (by have := Ho.out; rwa [List.take_of_length_le (by have := Hl.out; omega)] at this)
        have hbl : (HD ++ evsL es).length ≤ 900000 := by have := HHl.out; have := Hel.out; have := Hl.out; rw [List.length_append]; omega
        have dmm : decide (m < m) = false := by simp
        have M10 := M8; have B10 := Hbel; have hc10 := hcr
        have hz10 : w1.heap.size ≤ wr.heap.size := B10.out.size
        clear hcr
        go_wp2_with fail
        refine (refNumI_t w1.heap.size w1.heap.size m0 _ wr O10.out hz10 (by simp only [List.length_append, be64_length] at hbl ⊢; omega)).mono ?_
        rintro e w11 ⟨rfl, ho, hb⟩
        have M11 := Lib.hid (M10.out.typR hb (by decide) (by decide)); have O11 := Lib.hid ho; have B11 := Lib.hid (B10.out.trans hb.bel)
        have hc11 := M11.out.cell
        have hz11 : w1.heap.size ≤ w11.heap.size := B11.out.size
        clear ho hb hc10
        go_wp2_with fail
        refine (refNumI_t w1.heap.size w1.heap.size m1 _ w11 O11.out hz11 (by simp only [List.length_append, be64_length] at hbl ⊢; omega)).mono ?_
        rintro e w12 ⟨rfl, ho, hb⟩
        have M12 := Lib.hid (M11.out.typR hb (by decide) (by decide)); have O12 := Lib.hid ho; have B12 := Lib.hid (B11.out.trans hb.bel)
        have hc12 := M12.out.cell
        have hz12 : w1.heap.size ≤ w12.heap.size := B12.out.size
        clear ho hb hc11
        go_wp2_with fail
        refine (refNumI_t w1.heap.size w1.heap.size m2 _ w12 O12.out hz12 (by simp only [List.length_append, be64_length] at hbl ⊢; omega)).mono ?_
        rintro e w13 ⟨rfl, ho, hb⟩
        have M13 := Lib.hid (M12.out.typR hb (by decide) (by decide)); have O13 := Lib.hid ho; have B13 := Lib.hid (B12.out.trans hb.bel)
        have hc13 := M13.out.cell
        have hz13 : w1.heap.size ≤ w13.heap.size := B13.out.size
        clear ho hb hc12
        go_wp2_with fail
        refine (refDone7_any w1.heap.size w1.heap.size _ w13 O13.out (by simp only [List.length_append, be64_length] at hbl ⊢; omega)).mono ?_
        rintro e w14 ⟨rfl, rfl⟩
        clear hc13
        go_wp2_with fail
        go_ret2
        rw [Hm.out]
        exact ⟨by simp, Hb1.out.trans (B13.out.mono Hb1.out.size)⟩
  · have hp := putC_bad hc
    rw [hp]
    have hne : (checkC ⟨k, t, s, x, es, m0, m1, m2⟩ != 0) = true := by rw [bne_iff_ne]; exact hc
    obtain ⟨E, hE⟩ : ∃ E, checkC ⟨k, t, s, x, es, m0, m1, m2⟩ = E := ⟨_, rfl⟩
    rw [hE] at hck hne ⊢
    have Hck := Lib.hid hck; have HB0 := Lib.hid hb0
    clear hp hM hr hr0 hck hb0 hf hc hE
    go_enter Try.func24, Try.ntmps24
    go_wp2_with fail
    (try rw [hW])
    refine Hck.out.mono ?_
    rintro x1 w1 ⟨rfl, hb1⟩
    go_wp2_with fail
    go_ret2
    exact ⟨rfl, HB0.out.trans (hb1.mono HB0.out.size)⟩
end Go.Proofs.Ytfpalamoaflilaa
