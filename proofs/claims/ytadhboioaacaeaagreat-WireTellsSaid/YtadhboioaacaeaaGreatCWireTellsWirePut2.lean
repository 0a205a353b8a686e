/- wire.Put: a message laid. -/
import Derived.Test.YtadhboioaacaeaaGreatCWireTellsWirePut

namespace Go.Proofs.YtadhboioaacaeaaGreat
open Go.RowKit
set_option maxHeartbeats 4000000
set_option maxRecDepth 100000
set_option linter.unusedVariables false

theorem OutIs.drew {w : World} {base g : Nat} {bs : List UInt8} {e : Int} (h : OutIs w base g bs e) : OutIs w.drew base g bs e := by
  obtain ⟨v, hB, hb, ho⟩ := h
  exact ⟨v, hB.below (below_drewN (Below.refl w.heap.size w) 1) hB.lt, hb, ho.drew⟩

theorem wirePut_any (k t l e c : Int) (ok : Bool) (A : Option Addr) (n cap B : Nat) (es : List ByteArray) (w : World) (hr : SlR w B 1 A n (strVs es)) (hB : B ≤ w.heap.size) (hn : n ≤ 1000000000) (hf : ∀ s ∈ es, s.size ≤ 9223372036854775807) :
    Calls Tryz.prog 7 #[.agg #[.int .i64 k, .int .i64 t, .int .i64 l, .int .i64 e, .int .i64 c, .bool ok, .slice A n cap]] w fun x w' =>
      x = .returned (.tuple #[.string ⟨(putW ⟨k, t, l, e, c, ok, es⟩).1.toArray⟩, .int .i64 (putW ⟨k, t, l, e, c, ok, es⟩).2]) ∧ Below w.heap.size w w' := by
  have hb0 : Below w.heap.size w (w.alloc (.cells #[.int .i64 k, .int .i64 t, .int .i64 l, .int .i64 e, .int .i64 c, .bool ok, .slice A n cap] 24)) := (Below.refl w.heap.size w).alloc (Nat.le_refl _) _
  have hri := right_any k t l e c ok A n cap B es _ (hr.below (hb0.mono hB) ) (by simp; omega) hn hf
  have hM : BlkIs (w.alloc (.cells #[.int .i64 k, .int .i64 t, .int .i64 l, .int .i64 e, .int .i64 c, .bool ok, .slice A n cap] 24)) w.heap.size 24 #[.int .i64 k, .int .i64 t, .int .i64 l, .int .i64 e, .int .i64 c, .bool ok, .slice A n cap] := BlkIs.new _ _ _
  by_cases hR : (WMsg.mk k t l e c ok es).right
  · have hp : putW ⟨k, t, l, e, c, ok, es⟩ = (sum4 (msgL ⟨k, t, l, e, c, ok, es⟩) ++ msgL ⟨k, t, l, e, c, ok, es⟩, 0) := by unfold putW; rw [if_pos hR]
    rw [hp]
    rw [decide_eq_true hR] at hri
    obtain ⟨⟨⟨t0, t1⟩, ⟨l0, l1⟩, ⟨e0, e1⟩, ⟨c0, c1⟩⟩, hs4, ⟨k0, k1⟩, hn4⟩ := hR
    dsimp only at t0 t1 l0 l1 e0 e1 c0 c1 hs4 k0 k1 hn4
    obtain ⟨k, rfl⟩ : ∃ q : Nat, k = q := ⟨k.toNat, by omega⟩
    obtain ⟨t, rfl⟩ : ∃ q : Nat, t = q := ⟨t.toNat, by omega⟩
    obtain ⟨l, rfl⟩ : ∃ q : Nat, l = q := ⟨l.toNat, by omega⟩
    obtain ⟨e, rfl⟩ : ∃ q : Nat, e = q := ⟨e.toNat, by omega⟩
    obtain ⟨c, rfl⟩ : ∃ q : Nat, c = q := ⟨c.toNat, by omega⟩
    have hl : es.length = n := by have := hr.len; simpa [strVs] using this
    have kk : k ≤ 4 := by omega
    have tt : t ≤ 2147483647 := by omega
    have ll : l ≤ 2147483647 := by omega
    have ee : e ≤ 2147483647 := by omega
    have cc : c ≤ 2147483647 := by omega
    have nn : n ≤ 4 := by omega
    have hw0 : Below w.heap.size w (w.alloc (.cells #[.int .i64 k, .int .i64 t, .int .i64 l, .int .i64 e, .int .i64 c, .bool ok, .slice A n cap] 24)) := hb0
    have Hri := Lib.hid hri; have HM := Lib.hid hM; have Hr := Lib.hid hr; have Hl := Lib.hid hl; have Hs4 := Lib.hid hs4; have Hb0 := Lib.hid hb0
    clear hp hri hM hr hl hs4 hb0 hw0 t0 t1 l0 l1 e0 e1 c0 c1 k0 k1 hn4
    go_enter Tryz.func7, Tryz.ntmps7
    have hg5 := HM.out.cell 5
    go_wp2_with fail
    refine Hri.out.mono ?_
    rintro x w1 ⟨rfl, hb1⟩
    have M1 := Lib.hid (HM.out.below hb1 HM.out.lt)
    have hg5 := M1.out.cell 5
    simp at hg5
    have Hb1 := Lib.hid (Hb0.out.trans (hb1.mono (by simp)))
    have Hr1 := Lib.hid (Hr.out.below (Hb1.out.mono hB))
    have hm1 := M1.out.lt
    have HO := Lib.hid (out_new w1).drew
    clear hb1
    have hS0 : ∀ wx, Below w1.heap.size w1 wx → wx.cell? ⟨w.heap.size, 0, none⟩ = some (.int .i64 k) ∧ wx.cell? ⟨w.heap.size, 1, none⟩ = some (.int .i64 t) ∧ wx.cell? ⟨w.heap.size, 2, none⟩ = some (.int .i64 l) ∧ wx.cell? ⟨w.heap.size, 3, none⟩ = some (.int .i64 e) ∧ wx.cell? ⟨w.heap.size, 4, none⟩ = some (.int .i64 c) ∧ wx.cell? ⟨w.heap.size, 6, none⟩ = some (.slice A n cap) := fun wx h => by
      have hb := M1.out.below h hm1
      exact ⟨hb.cell 0, hb.cell 1, hb.cell 2, hb.cell 3, hb.cell 4, hb.cell 6⟩
    have HS := Lib.hid hS0; clear hS0
    have HB : Below w1.heap.size w1 (w1.alloc (.cells #[.slice none 0 0, .int .i64 0] 65)) := (Below.refl _ _).alloc (Nat.le_refl _) _
    have hS := HS.out _ HB
    have HB := below_drewN HB 1
    have hS' := HS.out _ HB
    cases ok
    · obtain ⟨HD, hHD⟩ : ∃ HD, HD = [] ++ beBytes 1 k ++ beBytes 4 t ++ beBytes 4 l ++ beBytes 4 e ++ beBytes 4 c ++ beBytes 1 0 ++ beBytes 1 n := ⟨_, rfl⟩
      have hm : msgL ⟨(k : Int), (t : Int), (l : Int), (e : Int), (c : Int), false, es⟩ = HD ++ textsL es := by unfold msgL headL okN; rw [hHD, Hl.out]; simp
      have hHl : HD.length = 19 := by rw [hHD]; simp only [List.length_append, beBytes_length, List.length_nil]
      have Hm := Lib.hid hm; have HHD := Lib.hid hHD; have HHl := Lib.hid hHl
      clear hm hHD hHl
      have U8q : Hid (∀ (bs : List UInt8) (wq : World), OutIs wq w1.heap.size w1.heap.size bs 0 → w1.heap.size ≤ wq.heap.size → bs.length + 1 ≤ 1000000000 → Calls Tryz.prog 24 #[.pointer (some ⟨w1.heap.size, 0, none⟩), .int .i64 0] wq fun x w' => x = .returned (.pointer (some ⟨w1.heap.size, 0, none⟩)) ∧ OutIs w' w1.heap.size w1.heap.size (bs ++ beBytes 1 0) 0 ∧ Below w1.heap.size wq w') := Lib.hid (fun bs wq h h1 h2 => u8_ok w1.heap.size w1.heap.size 0 bs wq h h1 h2 (by decide))
      go_wp2_with fail
      go_region_held3 (fun wx => wx.cell? ⟨w.heap.size, 0, none⟩ = some (.int .i64 k) ∧ wx.cell? ⟨w.heap.size, 1, none⟩ = some (.int .i64 t) ∧ wx.cell? ⟨w.heap.size, 2, none⟩ = some (.int .i64 l) ∧ wx.cell? ⟨w.heap.size, 3, none⟩ = some (.int .i64 e) ∧ wx.cell? ⟨w.heap.size, 4, none⟩ = some (.int .i64 c) ∧ wx.cell? ⟨w.heap.size, 6, none⟩ = some (.slice A n cap)) (first | exact hS | exact hS' | go_keep) ((first
        | (go_at_call 24; refine (U8q.out _ _ HO.out HB.size (by simp only [List.length_append, beBytes_length, List.length_nil]; omega)).mono ?_; rintro x wx ⟨rfl, ho, hb⟩; have HO := Lib.hid ho; have HB := HB.trans hb; have hS := HS.out _ HB)
        | (go_at_call 24; refine (u8_ok w1.heap.size w1.heap.size _ _ _ HO.out HB.size (by simp only [List.length_append, beBytes_length, List.length_nil]; omega) (by omega)).mono ?_; rintro x wx ⟨rfl, ho, hb⟩; have HO := Lib.hid ho; have HB := HB.trans hb; have hS := HS.out _ HB)
        | (go_at_call 25; refine (u32_ok w1.heap.size w1.heap.size _ _ _ HO.out HB.size (by simp only [List.length_append, beBytes_length, List.length_nil]; omega) (by omega)).mono ?_; rintro x wx ⟨rfl, ho, hb⟩; have HO := Lib.hid ho; have HB := HB.trans hb; have hS := HS.out _ HB)))
      rename World => wx
      rw [← HHD.out] at HO
      obtain ⟨s0, s1, s2, s3, s4, s6⟩ := hS
      clear s0 s1 s2 s3 s4
      go_wp2_with fail
      go_loopw [39] (fun i wr => ∃ m : Nat, m ≤ n ∧ i = .int .i64 m ∧ OutIs wr w1.heap.size w1.heap.size (HD ++ textsL (es.take m)) 0 ∧ Below w1.heap.size w1 wr) (fun i _ => n - (intOf i).toNat)
      case atStart => exact ⟨0, Nat.zero_le _, rfl, by simpa [textsL] using HO.out, HB⟩
      case round =>
        obtain ⟨m, hm, rfl, ho, hbel⟩ := hrel
        have Ho := Lib.hid ho; have Hbel := Lib.hid hbel
        clear ho hbel
        by_cases hlt : m < n
        · obtain ⟨ad, u, hA, _, hu, hcell⟩ := (Hr1.out.below (Hbel.out.mono (by have := Hb1.out.size; omega))).get hlt
          subst hA
          obtain ⟨s, hg, rfl⟩ := strVs_get hu
          have hsz := Hs4.out s (List.mem_of_getElem? hg)
          have hfew := textsL_few (es.take m) (fun s hs => Hs4.out s (List.mem_of_mem_take hs))
          have hlm : (es.take m).length ≤ m := by rw [List.length_take]; omega
          have Hg := Lib.hid hg; clear hg hu
          have hbl : (HD ++ textsL (es.take m)).length ≤ 900000000 := by rw [List.length_append, HHl.out]; omega
          clear hfew hlm
          go_wp2_with fail
          refine (outText_ok w1.heap.size w1.heap.size _ s _ Ho.out Hbel.out.size (by omega) hbl).mono ?_
          rintro x w3 ⟨rfl, ho3, hb3⟩
          have Ho3 := Lib.hid ho3; clear ho3
          go_wp2_with fail
          go_roundw
          case rel => exact ⟨m + 1, by omega, by go_num, by rw [textsL_take es m s Hg.out, ← List.append_assoc]; exact Ho3.out, Hbel.out.trans hb3⟩
          case measure => simp [intOf]; omega
        · obtain rfl : m = n := by omega
          have Hoe : Hid (OutIs wr w1.heap.size w1.heap.size (HD ++ textsL es) 0) := Lib.hid (by have := Ho.out; rwa [List.take_of_length_le (by have := Hl.out; omega)] at this)
          have hfew := textsL_few es Hs4.out
          have hbl : (HD ++ textsL es).length ≤ 900000000 := by rw [List.length_append, HHl.out]; have := Hl.out; omega
          clear hfew
          go_wp2_with fail
          refine (done_ok w1.heap.size w1.heap.size _ _ Hoe.out).mono ?_
          rintro x w3 ⟨rfl, rfl⟩
          go_wp2_with fail
          refine (seal_any _ _ (by rw [size_mk]; omega)).mono ?_
          rintro x w4 ⟨rfl, hb4⟩
          go_wp2_with fail
          go_ret2
          rw [Hm.out]
          exact ⟨by simp, Hb1.out.trans ((Hbel.out.trans (hb4.mono Hbel.out.size)).mono Hb1.out.size)⟩
    · obtain ⟨HD, hHD⟩ : ∃ HD, HD = [] ++ beBytes 1 k ++ beBytes 4 t ++ beBytes 4 l ++ beBytes 4 e ++ beBytes 4 c ++ beBytes 1 1 ++ beBytes 1 n := ⟨_, rfl⟩
      have hm : msgL ⟨(k : Int), (t : Int), (l : Int), (e : Int), (c : Int), true, es⟩ = HD ++ textsL es := by unfold msgL headL okN; rw [hHD, Hl.out]; simp
      have hHl : HD.length = 19 := by rw [hHD]; simp only [List.length_append, beBytes_length, List.length_nil]
      have Hm := Lib.hid hm; have HHD := Lib.hid hHD; have HHl := Lib.hid hHl
      clear hm hHD hHl
      have U8q : Hid (∀ (bs : List UInt8) (wq : World), OutIs wq w1.heap.size w1.heap.size bs 0 → w1.heap.size ≤ wq.heap.size → bs.length + 1 ≤ 1000000000 → Calls Tryz.prog 24 #[.pointer (some ⟨w1.heap.size, 0, none⟩), .int .i64 1] wq fun x w' => x = .returned (.pointer (some ⟨w1.heap.size, 0, none⟩)) ∧ OutIs w' w1.heap.size w1.heap.size (bs ++ beBytes 1 1) 0 ∧ Below w1.heap.size wq w') := Lib.hid (fun bs wq h h1 h2 => u8_ok w1.heap.size w1.heap.size 1 bs wq h h1 h2 (by decide))
      go_wp2_with fail
      go_region_held3 (fun wx => wx.cell? ⟨w.heap.size, 0, none⟩ = some (.int .i64 k) ∧ wx.cell? ⟨w.heap.size, 1, none⟩ = some (.int .i64 t) ∧ wx.cell? ⟨w.heap.size, 2, none⟩ = some (.int .i64 l) ∧ wx.cell? ⟨w.heap.size, 3, none⟩ = some (.int .i64 e) ∧ wx.cell? ⟨w.heap.size, 4, none⟩ = some (.int .i64 c) ∧ wx.cell? ⟨w.heap.size, 6, none⟩ = some (.slice A n cap)) (first | exact hS | exact hS' | go_keep) ((first
        | (go_at_call 24; refine (U8q.out _ _ HO.out HB.size (by simp only [List.length_append, beBytes_length, List.length_nil]; omega)).mono ?_; rintro x wx ⟨rfl, ho, hb⟩; have HO := Lib.hid ho; have HB := HB.trans hb; have hS := HS.out _ HB)
        | (go_at_call 24; refine (u8_ok w1.heap.size w1.heap.size _ _ _ HO.out HB.size (by simp only [List.length_append, beBytes_length, List.length_nil]; omega) (by omega)).mono ?_; rintro x wx ⟨rfl, ho, hb⟩; have HO := Lib.hid ho; have HB := HB.trans hb; have hS := HS.out _ HB)
        | (go_at_call 25; refine (u32_ok w1.heap.size w1.heap.size _ _ _ HO.out HB.size (by simp only [List.length_append, beBytes_length, List.length_nil]; omega) (by omega)).mono ?_; rintro x wx ⟨rfl, ho, hb⟩; have HO := Lib.hid ho; have HB := HB.trans hb; have hS := HS.out _ HB)))
      rename World => wx
      rw [← HHD.out] at HO
      obtain ⟨s0, s1, s2, s3, s4, s6⟩ := hS
      clear s0 s1 s2 s3 s4
      go_wp2_with fail
      go_loopw [39] (fun i wr => ∃ m : Nat, m ≤ n ∧ i = .int .i64 m ∧ OutIs wr w1.heap.size w1.heap.size (HD ++ textsL (es.take m)) 0 ∧ Below w1.heap.size w1 wr) (fun i _ => n - (intOf i).toNat)
      case atStart => exact ⟨0, Nat.zero_le _, rfl, by simpa [textsL] using HO.out, HB⟩
      case round =>
        obtain ⟨m, hm, rfl, ho, hbel⟩ := hrel
        have Ho := Lib.hid ho; have Hbel := Lib.hid hbel
        clear ho hbel
        by_cases hlt : m < n
        · obtain ⟨ad, u, hA, _, hu, hcell⟩ := (Hr1.out.below (Hbel.out.mono (by have := Hb1.out.size; omega))).get hlt
          subst hA
          obtain ⟨s, hg, rfl⟩ := strVs_get hu
          have hsz := Hs4.out s (List.mem_of_getElem? hg)
          have hfew := textsL_few (es.take m) (fun s hs => Hs4.out s (List.mem_of_mem_take hs))
          have hlm : (es.take m).length ≤ m := by rw [List.length_take]; omega
          have Hg := Lib.hid hg; clear hg hu
          have hbl : (HD ++ textsL (es.take m)).length ≤ 900000000 := by rw [List.length_append, HHl.out]; omega
          clear hfew hlm
          go_wp2_with fail
          refine (outText_ok w1.heap.size w1.heap.size _ s _ Ho.out Hbel.out.size (by omega) hbl).mono ?_
          rintro x w3 ⟨rfl, ho3, hb3⟩
          have Ho3 := Lib.hid ho3; clear ho3
          go_wp2_with fail
          go_roundw
          case rel => exact ⟨m + 1, by omega, by go_num, by rw [textsL_take es m s Hg.out, ← List.append_assoc]; exact Ho3.out, Hbel.out.trans hb3⟩
          case measure => simp [intOf]; omega
        · obtain rfl : m = n := by omega
          have Hoe : Hid (OutIs wr w1.heap.size w1.heap.size (HD ++ textsL es) 0) := Lib.hid (by have := Ho.out; rwa [List.take_of_length_le (by have := Hl.out; omega)] at this)
          have hfew := textsL_few es Hs4.out
          have hbl : (HD ++ textsL es).length ≤ 900000000 := by rw [List.length_append, HHl.out]; have := Hl.out; omega
          clear hfew
          go_wp2_with fail
          refine (done_ok w1.heap.size w1.heap.size _ _ Hoe.out).mono ?_
          rintro x w3 ⟨rfl, rfl⟩
          go_wp2_with fail
          refine (seal_any _ _ (by rw [size_mk]; omega)).mono ?_
          rintro x w4 ⟨rfl, hb4⟩
          go_wp2_with fail
          go_ret2
          rw [Hm.out]
          exact ⟨by simp, Hb1.out.trans ((Hbel.out.trans (hb4.mono Hbel.out.size)).mono Hb1.out.size)⟩
  · have hp := putW_bad _ hR
    rw [hp]
    rw [decide_eq_false hR] at hri
    have Hri := Lib.hid hri; have HM := Lib.hid hM; have Hb0 := Lib.hid hb0
    clear hp hri hM hr hb0 hR
    go_enter Tryz.func7, Tryz.ntmps7
    go_wp2_with fail
    refine Hri.out.mono ?_
    rintro x w1 ⟨rfl, hb1⟩
    go_wp2_with fail
    go_ret2
    exact ⟨rfl, Hb0.out.trans (hb1.mono (by simp))⟩
end Go.Proofs.YtadhboioaacaeaaGreat
