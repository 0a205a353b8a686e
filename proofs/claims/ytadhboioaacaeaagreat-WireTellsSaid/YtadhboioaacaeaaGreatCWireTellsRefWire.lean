/- chronicleref20: a message laid, by the document's own answer. -/
import Derived.Test.YtadhboioaacaeaaGreatCWireTellsWirePut2
import Derived.Test.YtadhboioaacaeaaGreatCWireTellsRefText
import Derived.Test.YtadhboioaacaeaaGreatCWireTellsRef2

namespace Go.Proofs.YtadhboioaacaeaaGreat
open Go.RowKit
set_option maxHeartbeats 4000000
set_option maxRecDepth 100000
set_option linter.unusedVariables false
theorem small_any (t : Int) (w : World) :
    Calls Tryz.prog 29 #[.int .i64 t] w fun e w' => e = .returned (.bool (decide (0 ≤ t ∧ t ≤ 2147483647))) ∧ w = w' := by
  by_cases a : 0 ≤ t
  · by_cases b : t ≤ 2147483647
    · rw [decide_eq_true (⟨a, b⟩ : 0 ≤ t ∧ t ≤ 2147483647)]
      go_enter Tryz.func29, Tryz.ntmps29
      go_wp2_with fail
      go_ret
      exact ⟨rfl, rfl⟩
    · rw [decide_eq_false (fun h : 0 ≤ t ∧ t ≤ 2147483647 => b h.2)]
      have b' : decide (t ≤ 2147483647) = false := by simpa using b
      clear b
      go_enter Tryz.func29, Tryz.ntmps29
      go_wp2_with fail
      go_ret
      exact ⟨rfl, rfl⟩
  · rw [decide_eq_false (fun h : 0 ≤ t ∧ t ≤ 2147483647 => a h.1)]
    have a' : t < 0 := by omega
    clear a
    go_enter Tryz.func29, Tryz.ntmps29
    go_wp2_with fail
    go_ret
    exact ⟨rfl, rfl⟩


theorem smallW_any (t : Int) (w : World) :
    Calls Tryz.prog 29 #[.int .i64 t] w fun e w' => e = .returned (.bool (decide (smallP t))) ∧ w = w' := small_any t w

theorem refWirePut_any (k t l e c : Int) (ok : Bool) (A : Option Addr) (n cap B : Nat) (es : List ByteArray) (w : World) (hr : SlR w B 1 A n (strVs es)) (hB : B ≤ w.heap.size) (hn : n ≤ 1000000000) (hf : ∀ s ∈ es, s.size ≤ 9223372036854775807) :
    Calls Tryz.prog 8 #[.agg #[.int .i64 k, .int .i64 t, .int .i64 l, .int .i64 e, .int .i64 c, .bool ok, .slice A n cap]] w fun x w' =>
      x = .returned (.tuple #[.string ⟨(putW ⟨k, t, l, e, c, ok, es⟩).1.toArray⟩, .int .i64 (putW ⟨k, t, l, e, c, ok, es⟩).2]) ∧ Below w.heap.size w w' := by
  have hb0 : Below w.heap.size w (w.alloc (.cells #[.int .i64 k, .int .i64 t, .int .i64 l, .int .i64 e, .int .i64 c, .bool ok, .slice A n cap] 41)) := (Below.refl w.heap.size w).alloc (Nat.le_refl _) _
  have hM : BlkIs (w.alloc (.cells #[.int .i64 k, .int .i64 t, .int .i64 l, .int .i64 e, .int .i64 c, .bool ok, .slice A n cap] 41)) w.heap.size 41 #[.int .i64 k, .int .i64 t, .int .i64 l, .int .i64 e, .int .i64 c, .bool ok, .slice A n cap] := BlkIs.new _ _ _
  have hl : es.length = n := by have := hr.len; simpa [strVs] using this
  have hsz : (ByteArray.mk #[] : ByteArray) = ⟨([] : List UInt8).toArray⟩ := rfl
  by_cases k1 : k < 1
  · skip
    have hdk1 : decide (k < (1 : Int)) = true := by simp; omega
    have hp := putW_bad (WMsg.mk k t l e c ok es) (fun h => by have := h.2.2.1.1; dsimp only at this; omega)
    have Hp := Lib.hid hp; have Hb0 := Lib.hid hb0
    clear hp hb0 hM hl hr k1
    go_enter Tryz.func8, Tryz.ntmps8
    go_wp2_with (go_at_call 29; refine (smallW_any _ _).mono ?_; rintro x wx ⟨rfl, rfl⟩)
    go_ret2
    rw [Hp.out]
    exact ⟨rfl, Hb0.out⟩
  · have hdk1 : decide (k < (1 : Int)) = false := by simp; omega
    by_cases k2 : 4 < k
    · skip
      have hdk2 : decide ((4 : Int) < k) = true := by simp; omega
      have hp := putW_bad (WMsg.mk k t l e c ok es) (fun h => by have := h.2.2.1.2; dsimp only at this; omega)
      have Hp := Lib.hid hp; have Hb0 := Lib.hid hb0
      clear hp hb0 hM hl hr k1 k2
      go_enter Tryz.func8, Tryz.ntmps8
      go_wp2_with (go_at_call 29; refine (smallW_any _ _).mono ?_; rintro x wx ⟨rfl, rfl⟩)
      go_ret2
      rw [Hp.out]
      exact ⟨rfl, Hb0.out⟩
    · have hdk2 : decide ((4 : Int) < k) = false := by simp; omega
      by_cases pt : ¬ smallP t
      · skip
        have hdpt : decide (smallP t) = false := decide_eq_false pt
        have hp := putW_bad (WMsg.mk k t l e c ok es) (fun h => pt h.1.1)
        have Hp := Lib.hid hp; have Hb0 := Lib.hid hb0
        clear hp hb0 hM hl hr k1 k2 pt
        go_enter Tryz.func8, Tryz.ntmps8
        go_wp2_with (go_at_call 29; refine (smallW_any _ _).mono ?_; rintro x wx ⟨rfl, rfl⟩)
        go_ret2
        rw [Hp.out]
        exact ⟨rfl, Hb0.out⟩
      · replace pt : smallP t := Decidable.not_not.mp pt
        have hdpt : decide (smallP t) = true := decide_eq_true pt
        by_cases pl : ¬ smallP l
        · skip
          have hdpl : decide (smallP l) = false := decide_eq_false pl
          have hp := putW_bad (WMsg.mk k t l e c ok es) (fun h => pl h.1.2.1)
          have Hp := Lib.hid hp; have Hb0 := Lib.hid hb0
          clear hp hb0 hM hl hr k1 k2 pt pl
          go_enter Tryz.func8, Tryz.ntmps8
          go_wp2_with (go_at_call 29; refine (smallW_any _ _).mono ?_; rintro x wx ⟨rfl, rfl⟩)
          go_ret2
          rw [Hp.out]
          exact ⟨rfl, Hb0.out⟩
        · replace pl : smallP l := Decidable.not_not.mp pl
          have hdpl : decide (smallP l) = true := decide_eq_true pl
          by_cases pe : ¬ smallP e
          · skip
            have hdpe : decide (smallP e) = false := decide_eq_false pe
            have hp := putW_bad (WMsg.mk k t l e c ok es) (fun h => pe h.1.2.2.1)
            have Hp := Lib.hid hp; have Hb0 := Lib.hid hb0
            clear hp hb0 hM hl hr k1 k2 pt pl pe
            go_enter Tryz.func8, Tryz.ntmps8
            go_wp2_with (go_at_call 29; refine (smallW_any _ _).mono ?_; rintro x wx ⟨rfl, rfl⟩)
            go_ret2
            rw [Hp.out]
            exact ⟨rfl, Hb0.out⟩
          · replace pe : smallP e := Decidable.not_not.mp pe
            have hdpe : decide (smallP e) = true := decide_eq_true pe
            by_cases pc : ¬ smallP c
            · skip
              have hdpc : decide (smallP c) = false := decide_eq_false pc
              have hp := putW_bad (WMsg.mk k t l e c ok es) (fun h => pc h.1.2.2.2)
              have Hp := Lib.hid hp; have Hb0 := Lib.hid hb0
              clear hp hb0 hM hl hr k1 k2 pt pl pe pc
              go_enter Tryz.func8, Tryz.ntmps8
              go_wp2_with (go_at_call 29; refine (smallW_any _ _).mono ?_; rintro x wx ⟨rfl, rfl⟩)
              go_ret2
              rw [Hp.out]
              exact ⟨rfl, Hb0.out⟩
            · replace pc : smallP c := Decidable.not_not.mp pc
              have hdpc : decide (smallP c) = true := decide_eq_true pc
              by_cases n4 : 4 < n
              · skip
                have hdn4 : decide ((4 : Int) < (n : Int)) = true := by simp; omega
                have hp := putW_bad (WMsg.mk k t l e c ok es) (fun h => by have := h.2.2.2; dsimp only at this; omega)
                have Hp := Lib.hid hp; have Hb0 := Lib.hid hb0
                clear hp hb0 hM hl hr k1 k2 pt pl pe pc n4
                go_enter Tryz.func8, Tryz.ntmps8
                go_wp2_with (go_at_call 29; refine (smallW_any _ _).mono ?_; rintro x wx ⟨rfl, rfl⟩)
                go_ret2
                rw [Hp.out]
                exact ⟨rfl, Hb0.out⟩
              · have hdn4 : decide ((4 : Int) < (n : Int)) = false := by simp; omega
                have pt' := pt; have pl' := pl; have pe' := pe; have pc' := pc
                unfold smallP at pt pl pe pc
                obtain ⟨k, rfl⟩ : ∃ q : Nat, k = q := ⟨k.toNat, by omega⟩
                obtain ⟨t, rfl⟩ : ∃ q : Nat, t = q := ⟨t.toNat, by omega⟩
                obtain ⟨l, rfl⟩ : ∃ q : Nat, l = q := ⟨l.toNat, by omega⟩
                obtain ⟨e, rfl⟩ : ∃ q : Nat, e = q := ⟨e.toNat, by omega⟩
                obtain ⟨c, rfl⟩ : ∃ q : Nat, c = q := ⟨c.toNat, by omega⟩
                have hri : (∀ s ∈ es, s.size ≤ 4000) → (WMsg.mk k t l e c ok es).right := fun hs => ⟨⟨pt', pl', pe', pc'⟩, hs, ⟨by dsimp only; omega, by dsimp only; omega⟩, by dsimp only; omega⟩
                have hrn : (WMsg.mk k t l e c ok es).right → ∀ s ∈ es, s.size ≤ 4000 := fun h => h.2.1
                have kk : k ≤ 4 := by omega
                have tt : t ≤ 2147483647 := by omega
                have ll : l ≤ 2147483647 := by omega
                have ee : e ≤ 2147483647 := by omega
                have cc : c ≤ 2147483647 := by omega
                have nn : n ≤ 4 := by omega
                have wk : IntKind.u64.wrap (k : Int) = (k : Int) := IntWalk.u64_in _ (by omega)
                have wt : IntKind.u64.wrap (t : Int) = (t : Int) := IntWalk.u64_in _ (by omega)
                have wl : IntKind.u64.wrap (l : Int) = (l : Int) := IntWalk.u64_in _ (by omega)
                have we : IntKind.u64.wrap (e : Int) = (e : Int) := IntWalk.u64_in _ (by omega)
                have wc : IntKind.u64.wrap (c : Int) = (c : Int) := IntWalk.u64_in _ (by omega)
                have wn : IntKind.u64.wrap (n : Int) = (n : Int) := IntWalk.u64_in _ (by omega)
                obtain ⟨HD, hHD⟩ : ∃ HD, HD = [] ++ beBytes 1 k ++ beBytes 4 t ++ beBytes 4 l ++ beBytes 4 e ++ beBytes 4 c ++ beBytes 1 (okN ok) ++ beBytes 1 n := ⟨_, rfl⟩
                have hm : msgL ⟨(k : Int), (t : Int), (l : Int), (e : Int), (c : Int), ok, es⟩ = HD ++ textsL es := by unfold msgL headL; rw [hHD, hl]; simp
                have hHl : HD.length = 19 := by rw [hHD]; simp only [List.length_append, beBytes_length, List.length_nil]
                have Hm := Lib.hid hm; have HHD := Lib.hid hHD; have HHl := Lib.hid hHl
                have HM := Lib.hid hM; have Hr := Lib.hid hr; have Hl := Lib.hid hl; have Hb0 := Lib.hid hb0; have Hri := Lib.hid hri; have Hrn := Lib.hid hrn
                clear pt' pl' pe' pc' hm hHD hHl hM hr hl hb0 hri hrn k1 k2 pt pl pe pc n4
                go_enter Tryz.func8, Tryz.ntmps8
                go_wp2_with (go_at_call 29; refine (smallW_any _ _).mono ?_; rintro x wx ⟨rfl, rfl⟩)
                have ho0 := rout_new (w.alloc (.cells #[.int .i64 k, .int .i64 t, .int .i64 l, .int .i64 e, .int .i64 c, .bool ok, .slice A n cap] 41))
                rw [show (w.alloc (.cells #[.int .i64 k, .int .i64 t, .int .i64 l, .int .i64 e, .int .i64 c, .bool ok, .slice A n cap] 41)).heap.size = w.heap.size + 1 from by simp] at ho0
                refine (refNum_any (w.heap.size + 1) (w.heap.size + 1) 1 k _ _ ho0 (by simp) (by simp only [List.length_append, beBytes_length, List.length_nil]; omega) (by omega) (by omega)).mono ?_
                rintro x w1 ⟨rfl, ho1, hb1⟩
                have M1 := Lib.hid ((HM.out.alloc (.cells #[.slice none 0 0, .int .i64 0] 73)).below hb1 (by omega))
                have W1 := Lib.hid ((Hb0.out.alloc (by simp) (.cells #[.slice none 0 0, .int .i64 0] 73)).trans (hb1.mono (by simp)))
                have lt1 : w.heap.size + 1 < w1.heap.size := by obtain ⟨v, hq, _⟩ := ho1; exact hq.lt
                have HO1 := Lib.hid ho1; clear ho1 hb1
                have f0 := M1.out.cell 0; have f1 := M1.out.cell 1; have f2 := M1.out.cell 2; have f3 := M1.out.cell 3; have f4 := M1.out.cell 4; have f5 := M1.out.cell 5; have f6 := M1.out.cell 6
                simp at f0 f1 f2 f3 f4 f5 f6
                go_wp2_with fail
                clear f0 f1 f2 f3 f4 f5 f6
                refine (refNum_any (w.heap.size + 1) (w.heap.size + 1) 4 t _ _ HO1.out (by omega) (by simp only [List.length_append, beBytes_length, List.length_nil]; omega) (by omega) (by omega)).mono ?_
                rintro x w2 ⟨rfl, ho2, hb2⟩
                have M2 := Lib.hid (M1.out.below hb2 (by omega))
                have W2 := Lib.hid (W1.out.trans (hb2.mono (by omega)))
                have lt2 : w.heap.size + 1 < w2.heap.size := by obtain ⟨v, hq, _⟩ := ho2; exact hq.lt
                have HO2 := Lib.hid ho2; clear ho2 hb2
                have f0 := M2.out.cell 0; have f1 := M2.out.cell 1; have f2 := M2.out.cell 2; have f3 := M2.out.cell 3; have f4 := M2.out.cell 4; have f5 := M2.out.cell 5; have f6 := M2.out.cell 6
                simp at f0 f1 f2 f3 f4 f5 f6
                go_wp2_with fail
                clear f0 f1 f2 f3 f4 f5 f6
                refine (refNum_any (w.heap.size + 1) (w.heap.size + 1) 4 l _ _ HO2.out (by omega) (by simp only [List.length_append, beBytes_length, List.length_nil]; omega) (by omega) (by omega)).mono ?_
                rintro x w3 ⟨rfl, ho3, hb3⟩
                have M3 := Lib.hid (M2.out.below hb3 (by omega))
                have W3 := Lib.hid (W2.out.trans (hb3.mono (by omega)))
                have lt3 : w.heap.size + 1 < w3.heap.size := by obtain ⟨v, hq, _⟩ := ho3; exact hq.lt
                have HO3 := Lib.hid ho3; clear ho3 hb3
                have f0 := M3.out.cell 0; have f1 := M3.out.cell 1; have f2 := M3.out.cell 2; have f3 := M3.out.cell 3; have f4 := M3.out.cell 4; have f5 := M3.out.cell 5; have f6 := M3.out.cell 6
                simp at f0 f1 f2 f3 f4 f5 f6
                go_wp2_with fail
                clear f0 f1 f2 f3 f4 f5 f6
                refine (refNum_any (w.heap.size + 1) (w.heap.size + 1) 4 e _ _ HO3.out (by omega) (by simp only [List.length_append, beBytes_length, List.length_nil]; omega) (by omega) (by omega)).mono ?_
                rintro x w4 ⟨rfl, ho4, hb4⟩
                have M4 := Lib.hid (M3.out.below hb4 (by omega))
                have W4 := Lib.hid (W3.out.trans (hb4.mono (by omega)))
                have lt4 : w.heap.size + 1 < w4.heap.size := by obtain ⟨v, hq, _⟩ := ho4; exact hq.lt
                have HO4 := Lib.hid ho4; clear ho4 hb4
                have f0 := M4.out.cell 0; have f1 := M4.out.cell 1; have f2 := M4.out.cell 2; have f3 := M4.out.cell 3; have f4 := M4.out.cell 4; have f5 := M4.out.cell 5; have f6 := M4.out.cell 6
                simp at f0 f1 f2 f3 f4 f5 f6
                go_wp2_with fail
                clear f0 f1 f2 f3 f4 f5 f6
                refine (refNum_any (w.heap.size + 1) (w.heap.size + 1) 4 c _ _ HO4.out (by omega) (by simp only [List.length_append, beBytes_length, List.length_nil]; omega) (by omega) (by omega)).mono ?_
                rintro x w5 ⟨rfl, ho5, hb5⟩
                have M5 := Lib.hid (M4.out.below hb5 (by omega))
                have W5 := Lib.hid (W4.out.trans (hb5.mono (by omega)))
                have lt5 : w.heap.size + 1 < w5.heap.size := by obtain ⟨v, hq, _⟩ := ho5; exact hq.lt
                have HO5 := Lib.hid ho5; clear ho5 hb5
                have f0 := M5.out.cell 0; have f1 := M5.out.cell 1; have f2 := M5.out.cell 2; have f3 := M5.out.cell 3; have f4 := M5.out.cell 4; have f5 := M5.out.cell 5; have f6 := M5.out.cell 6
                simp at f0 f1 f2 f3 f4 f5 f6
                cases ok
                · go_wp2_with fail
                  clear f0 f1 f2 f3 f4 f5 f6
                  refine (refNum_any (w.heap.size + 1) (w.heap.size + 1) 1 0 _ _ HO5.out (by omega) (by simp only [List.length_append, beBytes_length, List.length_nil]; omega) (by omega) (by omega)).mono ?_
                  rintro x w6 ⟨rfl, ho6, hb6⟩
                  have M6 := Lib.hid (M5.out.below hb6 (by omega))
                  have W6 := Lib.hid (W5.out.trans (hb6.mono (by omega)))
                  have lt6 : w.heap.size + 1 < w6.heap.size := by obtain ⟨v, hq, _⟩ := ho6; exact hq.lt
                  have HO6 := Lib.hid ho6; clear ho6 hb6
                  have f0 := M6.out.cell 0; have f1 := M6.out.cell 1; have f2 := M6.out.cell 2; have f3 := M6.out.cell 3; have f4 := M6.out.cell 4; have f5 := M6.out.cell 5; have f6 := M6.out.cell 6
                  simp at f0 f1 f2 f3 f4 f5 f6
                  go_wp2_with fail
                  clear f0 f1 f2 f3 f4 f5 f6
                  refine (refNum_any (w.heap.size + 1) (w.heap.size + 1) 1 n _ _ HO6.out (by omega) (by simp only [List.length_append, beBytes_length, List.length_nil]; omega) (by omega) (by omega)).mono ?_
                  rintro x w7 ⟨rfl, ho7, hb7⟩
                  have M7 := Lib.hid (M6.out.below hb7 (by omega))
                  have W7 := Lib.hid (W6.out.trans (hb7.mono (by omega)))
                  have lt7 : w.heap.size + 1 < w7.heap.size := by obtain ⟨v, hq, _⟩ := ho7; exact hq.lt
                  have HO7 := Lib.hid ho7; clear ho7 hb7
                  have f0 := M7.out.cell 0; have f1 := M7.out.cell 1; have f2 := M7.out.cell 2; have f3 := M7.out.cell 3; have f4 := M7.out.cell 4; have f5 := M7.out.cell 5; have f6 := M7.out.cell 6
                  simp at f0 f1 f2 f3 f4 f5 f6
                  clear f0 f1 f2 f3 f4 f5 f6
                  have HO := Lib.hid HO7.out
                  rw [show beBytes 1 0 = beBytes 1 (okN false) from rfl, ← HHD.out] at HO
                  go_wp2_with fail
                  go_loopw [6] (fun i wr => ∃ m : Nat, m ≤ n ∧ i = .int .i64 m ∧ RoutIs wr (w.heap.size + 1) (w.heap.size + 1) (HD ++ textsL (es.take m)) 0 ∧ Below (w.heap.size + 1) w7 wr ∧ ∀ s ∈ es.take m, s.size ≤ 4000) (fun i _ => n - (intOf i).toNat)
                  case atStart => exact ⟨0, Nat.zero_le _, rfl, by simpa [textsL] using HO.out, Below.refl _ _, fun s hs => by simp at hs⟩
                  case round =>
                    obtain ⟨m, hm, rfl, ho, hbel, hsm4⟩ := hrel
                    have Ho := Lib.hid ho; have Hbel := Lib.hid hbel; have Hs4 := Lib.hid hsm4
                    have f6 := (M7.out.below hbel (by omega)).cell 6
                    simp at f6
                    have hz := hbel.size
                    clear ho hbel hsm4
                    by_cases hlt : m < n
                    · obtain ⟨ad, u, hA, _, hu, hcell⟩ := ((Hr.out.below (W7.out.mono hB)).below (Hbel.out.mono (by omega))).get hlt
                      subst hA
                      obtain ⟨s, hg, rfl⟩ := strVs_get hu
                      have hsz9 := hf s (List.mem_of_getElem? hg)
                      have Hg := Lib.hid hg; clear hg hu
                      by_cases h4k : s.size ≤ 4000
                      · have d1 : decide ((4000 : Int) < (s.size : Int)) = false := by simp; omega
                        have hfew := textsL_few (es.take m) Hs4.out
                        have hlm : (es.take m).length ≤ m := by rw [List.length_take]; omega
                        have hbl : (HD ++ textsL (es.take m)).length ≤ 900000000 := by rw [List.length_append, HHl.out]; omega
                        have H4k := Lib.hid h4k
                        clear hfew hlm
                        go_wp2_with fail
                        refine (refOutText_any (w.heap.size + 1) (w.heap.size + 1) _ s _ Ho.out (by omega) (by omega) hbl).mono ?_
                        rintro x w8 ⟨rfl, ho8, hb8⟩
                        have Ho8 := Lib.hid ho8; clear ho8
                        clear f6
                        go_wp2_with fail
                        go_roundw
                        case rel =>
                          refine ⟨m + 1, by omega, by go_num, by rw [textsL_take es m s Hg.out, ← List.append_assoc]; exact Ho8.out, Hbel.out.trans hb8, fun y hy => ?_⟩
                          rw [List.take_add_one, List.mem_append] at hy
                          rcases hy with hy | hy
                          · exact Hs4.out y hy
                          · rw [Hg.out] at hy; simp at hy; rw [hy]; exact H4k.out
                        case measure => simp [intOf]; omega
                      · have d1 : decide ((4000 : Int) < (s.size : Int)) = true := by simp; omega
                        have hp := putW_bad (WMsg.mk k t l e c false es) (fun h => h4k (Hrn.out h s (List.mem_of_getElem? Hg.out)))
                        have Hp := Lib.hid hp
                        clear h4k hp
                        go_wp2_with fail
                        go_ret2
                        rw [Hp.out]
                        exact ⟨rfl, W7.out.trans (Hbel.out.mono (by omega))⟩
                    · obtain rfl : m = n := by omega
                      have hes : ∀ s ∈ es, s.size ≤ 4000 := fun s hs => Hs4.out s (by rw [List.take_of_length_le (by have := Hl.out; omega)]; exact hs)
                      have hp : putW (WMsg.mk k t l e c false es) = (sum4 (HD ++ textsL es) ++ (HD ++ textsL es), 0) := by unfold putW; rw [if_pos (Hri.out hes), Hm.out]
                      have Hp := Lib.hid hp
                      have hoe : RoutIs wr (w.heap.size + 1) (w.heap.size + 1) (HD ++ textsL es) 0 := by have := Ho.out; rwa [List.take_of_length_le (by have := Hl.out; omega)] at this
                      have hfew := textsL_few es hes
                      have hbl : (HD ++ textsL es).length ≤ 900000000 := by rw [List.length_append, HHl.out]; have := Hl.out; omega
                      obtain ⟨bs, hbs⟩ : ∃ bs, HD ++ textsL es = bs := ⟨_, rfl⟩
                      rw [hbs] at hoe hbl Hp
                      obtain ⟨v, hB2, _, hown⟩ := hoe
                      have hq0 := hB2.cell 0
                      simp at hq0
                      have hstr := run_str_own (P := Tryz.prog) wr 50 9 5 Tryz.underlying50 Tryz.underlying5 Tryz.underlying9 (w.heap.size + 1) v bs hown
                      clear hfew hes hp hown hB2 hbs
                      go_wp2_with fail
                      refine (refSeal_any _ _ (by rw [size_mk]; omega)).mono ?_
                      rintro x w8 ⟨rfl, hb8⟩
                      go_wp2_with fail
                      go_ret2
                      rw [Hp.out]
                      have hall := W7.out.trans (Hbel.out.mono (by omega))
                      exact ⟨by simp, hall.trans (hb8.mono hall.size)⟩
                · go_wp2_with fail
                  clear f0 f1 f2 f3 f4 f5 f6
                  refine (refNum_any (w.heap.size + 1) (w.heap.size + 1) 1 1 _ _ HO5.out (by omega) (by simp only [List.length_append, beBytes_length, List.length_nil]; omega) (by omega) (by omega)).mono ?_
                  rintro x w6 ⟨rfl, ho6, hb6⟩
                  have M6 := Lib.hid (M5.out.below hb6 (by omega))
                  have W6 := Lib.hid (W5.out.trans (hb6.mono (by omega)))
                  have lt6 : w.heap.size + 1 < w6.heap.size := by obtain ⟨v, hq, _⟩ := ho6; exact hq.lt
                  have HO6 := Lib.hid ho6; clear ho6 hb6
                  have f0 := M6.out.cell 0; have f1 := M6.out.cell 1; have f2 := M6.out.cell 2; have f3 := M6.out.cell 3; have f4 := M6.out.cell 4; have f5 := M6.out.cell 5; have f6 := M6.out.cell 6
                  simp at f0 f1 f2 f3 f4 f5 f6
                  go_wp2_with fail
                  clear f0 f1 f2 f3 f4 f5 f6
                  refine (refNum_any (w.heap.size + 1) (w.heap.size + 1) 1 n _ _ HO6.out (by omega) (by simp only [List.length_append, beBytes_length, List.length_nil]; omega) (by omega) (by omega)).mono ?_
                  rintro x w7 ⟨rfl, ho7, hb7⟩
                  have M7 := Lib.hid (M6.out.below hb7 (by omega))
                  have W7 := Lib.hid (W6.out.trans (hb7.mono (by omega)))
                  have lt7 : w.heap.size + 1 < w7.heap.size := by obtain ⟨v, hq, _⟩ := ho7; exact hq.lt
                  have HO7 := Lib.hid ho7; clear ho7 hb7
                  have f0 := M7.out.cell 0; have f1 := M7.out.cell 1; have f2 := M7.out.cell 2; have f3 := M7.out.cell 3; have f4 := M7.out.cell 4; have f5 := M7.out.cell 5; have f6 := M7.out.cell 6
                  simp at f0 f1 f2 f3 f4 f5 f6
                  clear f0 f1 f2 f3 f4 f5 f6
                  have HO := Lib.hid HO7.out
                  rw [show beBytes 1 1 = beBytes 1 (okN true) from rfl, ← HHD.out] at HO
                  go_wp2_with fail
                  go_loopw [6] (fun i wr => ∃ m : Nat, m ≤ n ∧ i = .int .i64 m ∧ RoutIs wr (w.heap.size + 1) (w.heap.size + 1) (HD ++ textsL (es.take m)) 0 ∧ Below (w.heap.size + 1) w7 wr ∧ ∀ s ∈ es.take m, s.size ≤ 4000) (fun i _ => n - (intOf i).toNat)
                  case atStart => exact ⟨0, Nat.zero_le _, rfl, by simpa [textsL] using HO.out, Below.refl _ _, fun s hs => by simp at hs⟩
                  case round =>
                    obtain ⟨m, hm, rfl, ho, hbel, hsm4⟩ := hrel
                    have Ho := Lib.hid ho; have Hbel := Lib.hid hbel; have Hs4 := Lib.hid hsm4
                    have f6 := (M7.out.below hbel (by omega)).cell 6
                    simp at f6
                    have hz := hbel.size
                    clear ho hbel hsm4
                    by_cases hlt : m < n
                    · obtain ⟨ad, u, hA, _, hu, hcell⟩ := ((Hr.out.below (W7.out.mono hB)).below (Hbel.out.mono (by omega))).get hlt
                      subst hA
                      obtain ⟨s, hg, rfl⟩ := strVs_get hu
                      have hsz9 := hf s (List.mem_of_getElem? hg)
                      have Hg := Lib.hid hg; clear hg hu
                      by_cases h4k : s.size ≤ 4000
                      · have d1 : decide ((4000 : Int) < (s.size : Int)) = false := by simp; omega
                        have hfew := textsL_few (es.take m) Hs4.out
                        have hlm : (es.take m).length ≤ m := by rw [List.length_take]; omega
                        have hbl : (HD ++ textsL (es.take m)).length ≤ 900000000 := by rw [List.length_append, HHl.out]; omega
                        have H4k := Lib.hid h4k
                        clear hfew hlm
                        go_wp2_with fail
                        refine (refOutText_any (w.heap.size + 1) (w.heap.size + 1) _ s _ Ho.out (by omega) (by omega) hbl).mono ?_
                        rintro x w8 ⟨rfl, ho8, hb8⟩
                        have Ho8 := Lib.hid ho8; clear ho8
                        clear f6
                        go_wp2_with fail
                        go_roundw
                        case rel =>
                          refine ⟨m + 1, by omega, by go_num, by rw [textsL_take es m s Hg.out, ← List.append_assoc]; exact Ho8.out, Hbel.out.trans hb8, fun y hy => ?_⟩
                          rw [List.take_add_one, List.mem_append] at hy
                          rcases hy with hy | hy
                          · exact Hs4.out y hy
                          · rw [Hg.out] at hy; simp at hy; rw [hy]; exact H4k.out
                        case measure => simp [intOf]; omega
                      · have d1 : decide ((4000 : Int) < (s.size : Int)) = true := by simp; omega
                        have hp := putW_bad (WMsg.mk k t l e c true es) (fun h => h4k (Hrn.out h s (List.mem_of_getElem? Hg.out)))
                        have Hp := Lib.hid hp
                        clear h4k hp
                        go_wp2_with fail
                        go_ret2
                        rw [Hp.out]
                        exact ⟨rfl, W7.out.trans (Hbel.out.mono (by omega))⟩
                    · obtain rfl : m = n := by omega
                      have hes : ∀ s ∈ es, s.size ≤ 4000 := fun s hs => Hs4.out s (by rw [List.take_of_length_le (by have := Hl.out; omega)]; exact hs)
                      have hp : putW (WMsg.mk k t l e c true es) = (sum4 (HD ++ textsL es) ++ (HD ++ textsL es), 0) := by unfold putW; rw [if_pos (Hri.out hes), Hm.out]
                      have Hp := Lib.hid hp
                      have hoe : RoutIs wr (w.heap.size + 1) (w.heap.size + 1) (HD ++ textsL es) 0 := by have := Ho.out; rwa [List.take_of_length_le (by have := Hl.out; omega)] at this
                      have hfew := textsL_few es hes
                      have hbl : (HD ++ textsL es).length ≤ 900000000 := by rw [List.length_append, HHl.out]; have := Hl.out; omega
                      obtain ⟨bs, hbs⟩ : ∃ bs, HD ++ textsL es = bs := ⟨_, rfl⟩
                      rw [hbs] at hoe hbl Hp
                      obtain ⟨v, hB2, _, hown⟩ := hoe
                      have hq0 := hB2.cell 0
                      simp at hq0
                      have hstr := run_str_own (P := Tryz.prog) wr 50 9 5 Tryz.underlying50 Tryz.underlying5 Tryz.underlying9 (w.heap.size + 1) v bs hown
                      clear hfew hes hp hown hB2 hbs
                      go_wp2_with fail
                      refine (refSeal_any _ _ (by rw [size_mk]; omega)).mono ?_
                      rintro x w8 ⟨rfl, hb8⟩
                      go_wp2_with fail
                      go_ret2
                      rw [Hp.out]
                      have hall := W7.out.trans (Hbel.out.mono (by omega))
                      exact ⟨by simp, hall.trans (hb8.mono hall.size)⟩
end Go.Proofs.YtadhboioaacaeaaGreat
