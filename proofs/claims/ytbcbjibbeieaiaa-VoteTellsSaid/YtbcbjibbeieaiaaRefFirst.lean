/- chronicleref7: Frames, walked. -/
import Derived.Test.YtbcbjibbeieaiaaRefFirst1
import Derived.Test.YtbcbjibbeieaiaaFrameAll
namespace Go.Proofs.Ytbcbjibbeieaiaa
open Go.RowKit
set_option maxHeartbeats 1000000
set_option maxRecDepth 100000
set_option linter.unusedVariables false

theorem refFrames_any (s : ByteArray) (w : World) (hs : s.size ≤ 1000000000) :
    Calls Try.prog 35 #[.string s] w fun e w' => ∃ v, e = .returned (.tuple #[v, .int .i64 ((framesL s.data.toList).2 : Nat)]) ∧
      w'.ownsRow w.heap.size 9 1 v (framesL s.data.toList).1.length (strVs ((framesL s.data.toList).1.map mkS)) ∧ Below w.heap.size w w' := by
  obtain ⟨i0, hi0, hz0, hz1, hz2⟩ := info_parts info_str8
  obtain ⟨l, hl⟩ : ∃ l, s.data.toList = l := ⟨_, rfl⟩
  have hsl : s.size = l.length := by rw [← hl]; exact size_list s
  rw [hl]
  have Hl := Lib.hid hl; clear hl
  have hs' : l.length ≤ 1000000000 := by omega
  have Hsl := Lib.hid hsl; clear hsl
  go_enter Try.func35, Try.ntmps35
  go_wp2_with fail
  go_loopw [4, 5] (fun o a wr => ∃ (out : List (List UInt8)) (at_ : Nat) (lv : Value), lv = o ∧ a = .int .i64 at_ ∧ at_ ≤ s.size ∧ out.length ≤ at_ ∧
      framesL l = (out ++ (framesL (l.drop at_)).1, at_ + (framesL (l.drop at_)).2) ∧ wr.ownsRow w.heap.size 9 1 lv out.length (strVs (out.map mkS)) ∧ Below w.heap.size w wr) (fun _ a _ => s.size - (intOf a).toNat)
  case atStart => exact ⟨[], 0, _, rfl, rfl, Nat.zero_le _, Nat.le_refl _, by simp, World.ownsRow_nil _ _ _ _, Below.refl _ _⟩
  case round =>
    obtain ⟨out, at_, lv, rfl, rfl, hat, hol, hfr, hown, hb⟩ := hrel
    have Hfr := Lib.hid hfr; have Hown := Lib.hid hown
    clear hfr hown
    have hf := refFirst_any (s.extract at_ s.size) wr (by simp; omega)
    have hx : (s.extract at_ s.size).data.toList = l.drop at_ := by rw [str_from, Hl.out]
    rw [hx] at hf
    obtain ⟨f, hff⟩ : ∃ f, firstL (l.drop at_) = f := ⟨_, rfl⟩
    rw [hff] at hf
    have Hf := Lib.hid hf; clear hf hx
    by_cases he : f.2.2 = 0
    · have hd : (f.2.2 != 0) = false := by rw [he]; rfl
      have hok := first_ok (b := l.drop at_) (x := f.1) (m := f.2.1) (by rw [hff, ← he])
      have hst := framesL_step (l.drop at_) f.1 f.2.1 (by rw [hff, ← he])
      rw [List.drop_drop] at hst
      obtain ⟨hm, hx4, hml, _⟩ := hok
      rw [List.length_drop] at hml
      have hml2 : at_ + f.2.1 ≤ s.size := by rw [Hsl.out] at hat ⊢; omega
      have Hm := Lib.hid hm; have Hst := Lib.hid hst
      clear hm hst he hff hml
      go_wp2_with fail
      refine Hf.out.mono ?_
      rintro e w1 ⟨rfl, hb1⟩
      have hown1 := own_below Hown.out hb1 (fun q hq => (Hown.out.lt q hq).2)
      have hbb := hb.trans (hb1.mono hb.size)
      have Hown1 := Lib.hid hown1; clear hown1
      go_wp2_with (at_builtin; refine wpList_append_lies _ rfl (.tmp 21) (.tmp 23) _ rfl w.heap.size 9 i0 _ 1 16 Try.underlying67 hi0 hz0 hz1 hz2 rfl (by omega) lv out.length (strVs (out.map mkS)) rfl (Hown1.out.alloc _) ⟨w1.heap.size, 0, none⟩ 1 1 [.string (mkS f.1)] rfl rfl (World.news_of_block (cs := #[.string (mkS f.1)]) (heap_alloc_new w1 _)) (by simp [Value.oneCell']) (by omega) (by simp only [maxLen]; omega) (by omega) (by have := hbb.size; simp <;> omega) (w1.heap.size + 1) (by simp) ?_; intro g cp w2 hown2 hgrow hat1 hlt1)
      have hb2 : Below w.heap.size w w2 := (hbb.alloc hbb.size _).grown hgrow (by have := hbb.size; simp <;> omega) (fun q hq => (Hown1.out.lt q hq).1)
      go_wp2_with fail
      go_roundw
      case rel =>
        refine ⟨out ++ [f.1], at_ + f.2.1, _, rfl, by go_num, hml2, ?_, ?_, ?_, hb2⟩
        · rw [List.length_append, Hm.out]; simp; omega
        · rw [Hfr.out, Hst.out]; simp [Nat.add_assoc]
        · rw [List.length_append, strVs, List.map_append, List.map_append]; exact hown2
      case measure =>
        have := Hm.out
        simp [intOf]; omega
    · have hd : (f.2.2 != 0) = true := by rw [bne_iff_ne]; exact he
      have hst := framesL_stop (l.drop at_) (by rw [hff]; exact he)
      have Hst := Lib.hid hst
      clear hst he hff
      go_wp2_with fail
      refine Hf.out.mono ?_
      rintro e w1 ⟨rfl, hb1⟩
      have hown1 := own_below Hown.out hb1 (fun q hq => (Hown.out.lt q hq).2)
      go_wp2_with fail
      go_ret2
      refine ⟨lv, ?_, ?_, hb.trans (hb1.mono hb.size)⟩
      · rw [Hfr.out, Hst.out]; simp
      · rw [Hfr.out, Hst.out, List.append_nil]; exact hown1
end Go.Proofs.Ytbcbjibbeieaiaa
