/- chapter 13: the document's lay. -/
import Derived.Test.YtfkkcgdniepgoaaGreatJTableTells9
import Derived.Test.YtfkkcgdniepgoaaGreatCTableTellsRefOutM
import Derived.Test.YtfkkcgdniepgoaaGreatJTableTells10
import Derived.Test.YtfkkcgdniepgoaaGreatJTableTells5

namespace Go.Proofs.YtfkkcgdniepgoaaGreat
open Go.RowKit
set_option maxHeartbeats 4000000
set_option maxRecDepth 100000
set_option linter.unusedVariables false

theorem magic_cell (w : World) (o : Obj) : ∀ (j : Nat) (u : Value), (magicL.map byteV)[j]? = some u → ((w.alloc (.cells #[.int .u8 80, .int .u8 84, .int .u8 65, .int .u8 66] 5 (4, 5))).alloc o).cell? ((⟨w.heap.size, 0, none⟩ : Addr).add j) = some u := fun j u hu =>
  Lib.cell?_alloc_marked o (World.news_of_block (cs := #[.int .u8 80, .int .u8 84, .int .u8 65, .int .u8 66]) (heap_alloc_new w _) j u hu)

theorem refLay_any (A : Option Addr) (n c B : Nat) (l : List En) (w : World) (hr : SlR w B 3 A n (enVs l)) (hB : B ≤ w.heap.size) (hn : n ≤ 1000000) :
    Calls Tryz.prog 38 #[.slice A n c] w fun x w' => x = .returned (.string ⟨(sealT l).toArray⟩) ∧ Below w.heap.size w w' := by
  have hl : l.length = n := by have := hr.len; rw [enVs_length] at this; omega
  have Hr := Lib.hid hr; have Hl := Lib.hid hl
  clear hr hl
  have kc := fun (w : World) (C : Array Value) (n c : Nat) => Lib.run_convert_bytes_const (P := Tryz.prog) w 72 5 C n c Tryz.underlying72 Tryz.underlying5
  obtain ⟨X, hX⟩ : ∃ X, (w.alloc (.cells #[.int .u8 80, .int .u8 84, .int .u8 65, .int .u8 66] 5 (4, 5))).alloc (.cells #[.slice (some ⟨w.heap.size, 0, none⟩) 4 4, .int .i64 0] 118) = X := ⟨_, rfl⟩
  have HXB : Hid (BlkIs X (w.heap.size + 1) 118 #[.slice (some ⟨w.heap.size, 0, none⟩) 4 4, .int .i64 0]) := Lib.hid (by
    have := BlkIs.new (w.alloc (.cells #[.int .u8 80, .int .u8 84, .int .u8 65, .int .u8 66] 5 (4, 5))) 118 #[.slice (some ⟨w.heap.size, 0, none⟩) 4 4, .int .i64 0]
    rw [← hX]
    simpa using this)
  have HXC : Hid (∀ (j : Nat) (u : Value), (magicL.map byteV)[j]? = some u → X.cell? ((⟨w.heap.size, 0, none⟩ : Addr).add j) = some u) := Lib.hid (by rw [← hX]; exact magic_cell w _)
  have Hb0 : Hid (Below w.heap.size w X) := Lib.hid (by rw [← hX]; exact ((Below.refl _ _).alloc (Nat.le_refl _) _).alloc (by simp) _)
  have hwn : IntKind.u64.wrap (n : Int) = (n : Int) := IntWalk.u64_in _ (by omega)
  go_enter Tryz.func38, Tryz.ntmps38
  go_wp2_with fail
  (try rw [hX])
  refine (refNumM_any (w.heap.size + 1) w.heap.size w.heap.size n 4 magicL X rfl rfl HXB.out HXC.out (by omega) Hb0.out.size (by omega)).mono ?_
  rintro e w1 ⟨rfl, ho1, hb1⟩
  have Ho1 := Lib.hid ho1
  have Hb1 := Lib.hid (Hb0.out.trans hb1)
  clear ho1 hb1 hwn HXB HXC Hb0 hX kc
  go_wp2_with fail
  go_loopw [4] (fun i wr => ∃ k : Nat, k ≤ n ∧ i = .int .i64 (k : Int) ∧ Hid (RoutIs wr w.heap.size (w.heap.size + 1) (magicL ++ beBytes 4 n ++ entsL (l.take k)) 0 ∧ Below w.heap.size w wr)) (fun i _ => n - (intOf i).toNat)
  case atStart => exact ⟨0, Nat.zero_le _, rfl, Lib.hid ⟨by simpa [entsL] using Ho1.out, Hb1.out⟩⟩
  case round =>
    obtain ⟨k, hk, rfl, HI⟩ := hrel
    have hk0 : 0 ≤ (k : Int) := by omega
    by_cases hlt : k < n
    · obtain ⟨ad, x, rfl, had, hx, hat⟩ := Hr.out.en (k := k) (by omega)
      have Hx := Lib.hid hx
      obtain ⟨x0, x1, x2⟩ := x
      have Hat : Hid (∀ wx, Below w.heap.size w wx → wx.cell? (ad.add (k * 3)) = some (.int .i64 x0) ∧ wx.cell? ⟨(ad.add (k * 3)).block, (ad.add (k * 3)).off + 1, none⟩ = some (.int .i64 x1) ∧ wx.cell? ⟨(ad.add (k * 3)).block, (ad.add (k * 3)).off + 2, none⟩ = some (.int .i64 x2)) := Lib.hid (fun wx h => by
        have f := hat.below h (by rw [add_block]; exact Nat.lt_of_lt_of_le had hB)
        exact ⟨f.1, f.2.1, f.2.2⟩)
      have hlt1 : (k : Int) < (n : Int) := by omega
      have hbl : (magicL ++ beBytes 4 n ++ entsL (l.take k)).length ≤ 30000000 := by rw [List.length_append, List.length_append, beBytes_length, entsL_length, List.length_take]; simp only [magicL, List.length_cons, List.length_nil]; omega
      have HR := Lib.hid HI.out.1; have HBw := Lib.hid HI.out.2
      obtain ⟨b0, hb00⟩ : ∃ b0, b0 = magicL ++ beBytes 4 n ++ entsL (l.take k) := ⟨_, rfl⟩
      rw [← hb00] at HR hbl
      have Hb00 := Lib.hid hb00
      clear hx hat HI hb00
      obtain ⟨f0, f1, f2⟩ := Hat.out wr HBw.out
      go_wp2_with fail
      refine (refNumI_any (w.heap.size + 1) w.heap.size x0 b0 _ HR.out HBw.out.size (by omega)).mono ?_
      rintro e w2 ⟨rfl, ho2, hb2⟩
      have HR2 := Lib.hid ho2; have HBw2 := Lib.hid (HBw.out.trans hb2)
      clear ho2 hb2 f0 f1 f2 HR HBw
      obtain ⟨f0, f1, f2⟩ := Hat.out w2 HBw2.out
      go_wp2_with fail
      refine (refNumI_any (w.heap.size + 1) w.heap.size x1 _ _ HR2.out HBw2.out.size (by rw [List.length_append, be64_length]; omega)).mono ?_
      rintro e w3 ⟨rfl, ho3, hb3⟩
      have HR3 := Lib.hid ho3; have HBw3 := Lib.hid (HBw2.out.trans hb3)
      clear ho3 hb3 f0 f1 f2 HR2 HBw2
      obtain ⟨f0, f1, f2⟩ := Hat.out w3 HBw3.out
      go_wp2_with fail
      refine (refNumI_any (w.heap.size + 1) w.heap.size x2 _ _ HR3.out HBw3.out.size (by simp only [List.length_append, be64_length]; omega)).mono ?_
      rintro e w4 ⟨rfl, ho4, hb4⟩
      have HR4 := Lib.hid ho4; have HBw4 := Lib.hid (HBw3.out.trans hb4)
      clear ho4 hb4 f0 f1 f2 HR3 HBw3
      go_wp2_with fail
      go_roundw
      case rel =>
        refine ⟨k + 1, by omega, by go_num, Lib.hid ⟨?_, HBw4.out⟩⟩
        have h := HR4.out
        rw [Hb00.out] at h
        rw [entsL_take l k _ Hx.out]
        simpa [entL, List.append_assoc] using h
      case measure => simp [intOf]; omega
    · obtain rfl : k = n := by omega
      have hd : decide ((k : Int) < (k : Int)) = false := by simp
      have ho := HI.out.1
      rw [List.take_of_length_le (Nat.le_of_eq Hl.out)] at ho
      have hbl : (magicL ++ beBytes 4 k ++ entsL l).length ≤ 500000000 := by rw [List.length_append, List.length_append, beBytes_length, entsL_length, Hl.out]; simp only [magicL, List.length_cons, List.length_nil]; omega
      have hb00 : magicL ++ beBytes 4 k ++ entsL l = magicL ++ tblL l := by unfold tblL; rw [Hl.out, List.append_assoc]
      rw [hb00] at ho hbl
      have HBw := Lib.hid HI.out.2
      obtain ⟨v, hblk, hge, hown⟩ := ho
      have hc0 := hblk.cell 0
      simp at hc0
      obtain ⟨bs, hbs⟩ : ∃ bs, bs = magicL ++ tblL l := ⟨_, rfl⟩
      rw [← hbs] at hown hbl
      have hstr := run_str_own (P := Tryz.prog) wr 72 9 5 Tryz.underlying72 Tryz.underlying5 Tryz.underlying9 w.heap.size v bs hown
      obtain ⟨A9, c9, rfl, _⟩ := own_slice hown
      have Hbs := Lib.hid hbs
      clear hblk hown HI hb00 hbs
      go_wp2_with fail
      (try rw [hstr])
      (try go_wp2_with fail)
      clear hstr
      refine (refSeal_any _ _ (by rw [size_mk]; omega)).mono ?_
      rintro e w5 ⟨rfl, hb5⟩
      have HBf := Lib.hid (HBw.out.trans (hb5.mono HBw.out.size))
      clear hb5
      go_wp2_with fail
      go_ret
      refine ⟨?_, HBf.out⟩
      unfold sealT
      rw [← Hbs.out]
      rfl
end Go.Proofs.YtfkkcgdniepgoaaGreat
