/- chapter 13: alive. -/
import Derived.Test.YtfkkcgdniepgoaaJTableAsTab4
namespace Go.Proofs.Ytfkkcgdniepgoaa
open Go.RowKit
set_option maxHeartbeats 4000000
set_option maxRecDepth 100000
set_option linter.unusedVariables false

def nineE (k : Nat) : List En := (List.range k).map fun (i : Nat) => (((1 : Int), ((i : Nat) : Int), ((i : Nat) : Int)) : En)
theorem nineE_len (k : Nat) : (nineE k).length = k := by simp [nineE]
theorem nineE_succ (k : Nat) : nineE (k + 1) = nineE k ++ [((1 : Int), ((k : Nat) : Int), ((k : Nat) : Int))] := by simp [nineE, List.range_succ]

theorem alive13_any (w : World) :
    Calls Try.prog 6 #[] w fun x w' => x = .returned (.bool true) ∧ Below w.heap.size w w' := by
  obtain ⟨i0, hi0, hz0, hz1, hz2⟩ := info_parts info_en
  have hmay : mayT (nineE 9) = true := by decide
  have hmid : (midsE (nineE 9)).length = 2 := by decide
  have hfin : (findE (nineE 9) 1 4).length = 1 := by decide
  have hsort : SortedE (nineE 9) := by decide
  have hpos : ∀ x ∈ nineE 9, 0 ≤ x.2.2 := by decide
  have hlen : (nineE 9).length = 9 := nineE_len 9
  have hbu := buildT_yes hmay
  have hop := openT_build (nineE 9) hmay (by rw [hlen]; omega)
  have hsl := sealT_length (nineE 9)
  rw [hlen] at hsl
  have H9 := Lib.hid (And.intro hmid (And.intro hfin (And.intro hsort (And.intro hpos (And.intro hlen (And.intro hbu (And.intro hop hsl)))))))
  clear hmay hmid hfin hsort hpos hlen hbu hop hsl
  go_enter Try.func6, Try.ntmps6
  go_wp2_with fail
  go_loopw [1, 2] (fun o i wr => ∃ (k : Nat) (u : Value), u = o ∧ k ≤ 9 ∧ i = .int .i64 (k : Int) ∧ wr.ownsRow w.heap.size 33 3 u k (enVs (nineE k)) ∧ Below w.heap.size w wr) (fun _ i _ => 9 - (intOf i).toNat)
  case atStart => exact ⟨0, _, rfl, Nat.zero_le _, rfl, World.ownsRow_nil _ _ _ _, Below.refl _ _⟩
  case round =>
    obtain ⟨k, u, rfl, hk, rfl, hown, hb⟩ := hrel
    by_cases hlt : k < 9
    · have hlt' : (k : Int) < 9 := by omega
      have Hsn := Lib.hid (nineE_succ k)
      have Hown := Lib.hid hown; have Hb := Lib.hid hb
      have hbs := hb.size
      generalize nineE k = F at Hown Hsn
      clear hown hb
      go_wp2_with (at_builtin; refine wpList_append_lies _ rfl (.tmp 11) (.tmp 15) _ rfl w.heap.size 33 i0 _ 3 24 Try.underlying22 hi0 hz0 hz1 hz2 rfl (by omega) u k (enVs F) rfl (Hown.out.alloc _) ⟨wr.heap.size, 0, none⟩ 1 1 [.int .i64 1, .int .i64 (k : Int), .int .i64 (k : Int)] rfl rfl (World.news_of_block (cs := #[.int .i64 1, .int .i64 (k : Int), .int .i64 (k : Int)]) (by have := heap_alloc_new wr (.cells #[.int .i64 1, .int .i64 (k : Int), .int .i64 (k : Int)] 33); simpa using this)) (by simp [Value.oneCell']) (by omega) (by simp only [maxLen]; omega) (by omega) (by simp <;> omega) (wr.heap.size + 1) (by simp) ?_; intro g cp w3 hown3 hgrow hat3 hlt3)
      have hb3 : Below w.heap.size w w3 := (Hb.out.alloc hbs _).grown hgrow (by simp; omega) (fun q hq => (Hown.out.lt q hq).1)
      go_roundw
      case rel =>
        refine ⟨k + 1, _, rfl, by omega, by go_num, ?_, hb3⟩
        rw [Hsn.out, enVs_append]
        exact hown3
      case measure => simp [intOf]; omega
    · obtain rfl : k = 9 := by omega
      obtain ⟨A, c, rfl, hnc⟩ := own_slice hown
      have hbuild := build_any A 9 c wr.heap.size (nineE 9) wr (SlR.own hown) (Nat.le_refl _) (by omega)
      rw [H9.out.2.2.2.2.2.1] at hbuild
      have Hbuild := Lib.hid hbuild
      have Hb := Lib.hid hb
      clear hown hb hbuild
      go_wp2_with fail
      refine Hbuild.out.mono ?_
      rintro x w1 ⟨rfl, hb1⟩
      have hopen := tblOpen_any ⟨(sealT (nineE 9)).toArray⟩ w1 (by have := H9.out.2.2.2.2.2.2.2; rw [size_mk]; omega)
      rw [show openT (ByteArray.mk (sealT (nineE 9)).toArray).data.toList = (nineE 9, 0) from H9.out.2.2.2.2.2.2.1] at hopen
      have Hopen := Lib.hid hopen
      have Hb1 := Lib.hid (Hb.out.trans (hb1.mono Hb.out.size))
      clear hopen hb1 Hbuild
      go_wp2_with fail
      refine Hopen.out.mono ?_
      rintro x w2 ⟨p, rfl, _, h1, hb2⟩
      obtain ⟨g, rfl, hT⟩ := h1 trivial
      have HT := Lib.hid hT
      have Hb2 := Lib.hid (Hb1.out.trans (hb2.mono Hb1.out.size))
      have hlen := H9.out.2.2.2.2.1
      have hlc := tblLen_any w1.heap.size g (nineE 9) w2 hT (by rw [hlen]; omega)
      rw [hlen] at hlc
      have Hlc := Lib.hid hlc
      have hmi := tblMids_any w1.heap.size g (nineE 9) w2 hT (by rw [hlen]; omega)
      rw [H9.out.1] at hmi
      have Hmi := Lib.hid hmi
      clear hT h1 hb2 hlen hlc hmi
      go_wp2_with fail
      refine Hlc.out.mono ?_
      rintro x w3 ⟨rfl, rfl⟩
      go_wp2_with fail
      refine Hmi.out.mono ?_
      rintro x w3 ⟨u3, rfl, hown3, hb3⟩
      obtain ⟨A3, c3, rfl, hnc3⟩ := own_slice hown3
      have hfi := tblFind_any w1.heap.size g (nineE 9) 1 4 w3 (HT.out.below hb3 (Nat.le_refl _)) (by rw [H9.out.2.2.2.2.1]; omega) H9.out.2.2.1 H9.out.2.2.2.1
      rw [H9.out.2.1] at hfi
      have Hfi := Lib.hid hfi
      have Hb3 := Lib.hid (Hb2.out.trans (hb3.mono Hb2.out.size))
      clear hown3 hb3 hfi
      go_wp2_with fail
      refine Hfi.out.mono ?_
      rintro x w4 ⟨u4, rfl, hown4, hb4⟩
      obtain ⟨A4, c4, rfl, hnc4⟩ := own_slice hown4
      have Hb4 := Lib.hid (Hb3.out.trans (hb4.mono Hb3.out.size))
      clear hown4 hb4
      go_wp2_with fail
      go_ret
      exact ⟨rfl, Hb4.out⟩
end Go.Proofs.Ytfkkcgdniepgoaa
