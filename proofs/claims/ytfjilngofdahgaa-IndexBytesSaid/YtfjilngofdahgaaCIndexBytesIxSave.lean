/- chapter 14: Save, walked. -/
import Derived.Test.YtfjilngofdahgaaCIndexBytesIxBytes
import Derived.Test.YtfjilngofdahgaaCIndexBytesIxMax
import Derived.Test.YtfjilngofdahgaaCIndexBytesIxCut
import Derived.Test.YtfjilngofdahgaaCIndexBytesTblBuild
import Derived.Test.YtfjilngofdahgaaCIndexBytesCheck
import Derived.Deep.DeepCutAuto
import Derived.Deep.CutBlock

namespace Go.Proofs.Ytfjilngofdahgaa
open Go.RowKit
set_option maxHeartbeats 4000000
set_option maxRecDepth 100000
set_option linter.unusedVariables false

theorem save_big {s : Tb × List Lv} (h : bigX s = true) : saveX s = ([], 2) := by unfold saveX; rw [if_pos h]
theorem save_no {s : Tb × List Lv} (h : bigX s = false) (h2 : mayX s = false) : saveX s = ([], 1) := by unfold saveX; rw [if_neg (by rw [h]; simp), if_neg (by rw [h2]; simp)]
theorem save_yes {s : Tb × List Lv} (h : bigX s = false) (h2 : mayX s = true) : saveX s = (sum4 (bodyX s) ++ bodyX s, 0) := by unfold saveX; rw [if_neg (by rw [h]; simp), if_pos h2]
theorem may_no {mem : Tb} {lv : List Lv} {l : Lv} {t : Tb} {k : Nat} (hk : k < (cutsX lv).length) (hl : lv[k]? = some l) (ht : t ∈ l) (h : mayT t = false) : mayX (mem, lv) = false := by
  unfold mayX
  rw [Bool.and_eq_false_iff]
  left
  rw [List.all_eq_false]
  refine ⟨l, ?_, ?_⟩
  · show l ∈ lv.take (cutsX lv).length
    rw [List.mem_iff_getElem?]
    exact ⟨k, by rw [List.getElem?_take_of_lt hk, hl]⟩
  · simp only [List.all_eq_true]
    intro h2
    rw [h2 t ht] at h
    cases h
theorem may_mem {mem : Tb} {lv : List Lv} (h : mayT mem = false) : mayX (mem, lv) = false := by unfold mayX; rw [Bool.and_eq_false_iff]; exact .inr h
theorem cuts_at {lv : List Lv} {k : Nat} {l : Lv} (hk : k < (cutsX lv).length) (hl : lv[k]? = some l) : (cutsX lv)[k]? = some (l.length : Int) := by
  have h := congrArg (fun x => x[k]?) (cuts_map lv)
  (try dsimp only at h)
  rw [h, List.getElem?_map]
  unfold trimX
  rw [List.getElem?_take_of_lt hk, hl]
  rfl
theorem big_not {lv : List Lv} {mem : Tb} (h : bigX (mem, lv) = false) : (cutsX lv).length ≤ 255 ∧ ∀ k l, k < (cutsX lv).length → lv[k]? = some l → l.length ≤ 255 := by
  unfold bigX at h
  rw [Bool.or_eq_false_iff, decide_eq_false_iff_not] at h
  obtain ⟨h1, h2⟩ := h
  refine ⟨by dsimp only at h1; omega, fun k l hk hl => ?_⟩
  have h3 := List.any_eq_false.1 h2 (l.length : Int) (List.mem_of_getElem? (cuts_at hk hl))
  simp only [decide_eq_true_eq] at h3
  omega
theorem may_yes {mem : Tb} {lv : List Lv} (h : ∀ l ∈ lv.take (cutsX lv).length, l.all mayT = true) (h2 : mayT mem = true) : mayX (mem, lv) = true := by
  unfold mayX
  rw [Bool.and_eq_true]
  exact ⟨List.all_eq_true.2 h, h2⟩
theorem wLs_take (lv : List Lv) (k : Nat) : wLs (lv.take k) ≤ wLs lv := by
  have := wLs_append (lv.take k) (lv.drop k)
  rw [List.take_append_drop] at this; omega
theorem u8_len1 (n : Nat) : (beBytes 1 n).length = 1 := beBytes_length 1 n

theorem saveX_any (S : Nat → Prop) (g : Nat) (room most : Int) (s : Tb × List Lv) (w : World) (h : IxIs w S g room most s) (hw : wX s ≤ 2000) :
    Calls Try.prog 31 #[.pointer (some ⟨g, 0, none⟩)] w fun e w' => e = .returned (.tuple #[.string ⟨(saveX s).1.toArray⟩, .int .i64 (saveX s).2]) ∧ Below w.heap.size w w' := by
  have hblen := bodyX_len s
  obtain ⟨mem, lv⟩ := s
  have hb0 : Below w.heap.size w (w.alloc (.cells #[.slice none 0 0, .int .i64 0] 80)) := (Below.refl _ _).alloc (Nat.le_refl _) _
  have hlev := levelsX_any S g room most (mem, lv) _ (h.below hb0) (by omega)
  obtain ⟨T, r, v, vs, hx⟩ := h
  obtain ⟨Av, cv, rfl, hnv⟩ := own_slice hx.row
  rw [wX_eq] at hw hblen
  dsimp only at hw hblen hlev
  have hfl := flats_len lv
  have hK : ∀ wx, Below w.heap.size w wx → IxAt wx S g room most (mem, lv) T r (.slice Av lv.length cv) vs := fun wx hb => hx.below hb
  have hcl := cuts_le lv
  have hgw := hx.blk.lt
  have hS : ∀ b, S b → b < w.heap.size := hx.lt
  obtain ⟨cs, hcs⟩ : ∃ cs, cutsX lv = cs := ⟨_, rfl⟩
  obtain ⟨n, hn⟩ : ∃ n, cs.length = n := ⟨_, rfl⟩
  rw [hcs] at hlev hcl
  rw [hn] at hlev hcl
  have ho0 := out_new w
  have K := Lib.hid hK; have Hlev := Lib.hid hlev; have Hcs := Lib.hid hcs; have Hn := Lib.hid hn; have HO0 := Lib.hid ho0; have HB0 := Lib.hid hb0; have HS := Lib.hid hS
  clear hK hlev hcs hn hx hb0 ho0 hS
  go_enter Try.func31, Try.ntmps31
  go_wp2_with fail
  refine Hlev.out.mono ?_
  rintro e w2 ⟨u, rfl, hown, hb⟩
  obtain ⟨Ac, cc, rfl, hnc⟩ := own_slice hown
  have B2 := Lib.hid (HB0.out.trans (hb.mono HB0.out.size))
  have O2 := Lib.hid (HO0.out.under hb (Nat.le_refl _))
  have HC := Lib.hid hown
  have R2 := Lib.hid (SlR.own hown)
  clear hown hb
  obtain ⟨big, hbig⟩ : ∃ big, bigX (mem, lv) = big := ⟨_, rfl⟩
  have hbig2 : big = (decide (255 < n) || cs.any (fun c => decide (255 < c))) := by
    rw [← hbig]; unfold bigX; dsimp only; rw [Hcs.out, Hn.out]
  have Hbig := Lib.hid hbig; have Hbig2 := Lib.hid hbig2
  clear hbig hbig2
  go_upto_region 5 with fail
  go_cut [31] (fun s31 wx => s31 = .bool big ∧ wx = w2)
  case first =>
    by_cases h1 : 255 < n
    · have d1 : (255 : Int) < (n : Int) := by omega
      have hbb : big = true := by rw [Hbig2.out, decide_eq_true h1]; rfl
      have Hbb := Lib.hid hbb
      clear hbb
      go_wp2_with fail
      go_meet
      exact ⟨by rw [Hbb.out], rfl⟩
    · have d1 : ¬ ((255 : Int) < (n : Int)) := by omega
      by_cases h0 : 0 < n
      · have d0 : (0 : Int) < (n : Int) := by omega
        have hov := maxL_over cs 255 (by rw [Hn.out]; exact h0)
        have hbb : big = decide (255 < maxL cs) := by rw [Hbig2.out, decide_eq_false h1, Bool.false_or, hov]
        have Hbb := Lib.hid hbb
        clear hbb hov
        go_wp2_with fail
        refine (sMax_any Ac n cc _ cs w2 R2.out h0 (by omega)).mono ?_
        rintro e w2' ⟨rfl, rfl⟩
        go_wp2_with fail
        go_meet
        exact ⟨by rw [Hbb.out], rfl⟩
      · have d0 : ¬ ((0 : Int) < (n : Int)) := by omega
        have hbb : big = false := by
          have : cs = [] := List.eq_nil_of_length_eq_zero (by have := Hn.out; omega)
          rw [Hbig2.out, decide_eq_false h1, this]; rfl
        have Hbb := Lib.hid hbb
        clear hbb
        go_wp2_with fail
        go_meet
        exact ⟨by rw [Hbb.out], rfl⟩
  case rest =>
    obtain ⟨rfl, rfl⟩ := hcut
    cases big with
    | true =>
      go_wp2_with fail
      go_ret2
      rw [save_big Hbig.out]
      exact ⟨rfl, B2.out⟩
    | false =>
      rename World => w2
      obtain ⟨hn255, hl255⟩ := big_not Hbig.out
      rw [Hcs.out, Hn.out] at hn255
      simp only [Hcs.out, Hn.out] at hl255
      have Hl255 := Lib.hid hl255
      have hu8 := u8_t w.heap.size w.heap.size n [] w2 O2.out B2.out.size (by simp) (by omega)
      rw [List.nil_append] at hu8
      have Hu8 := Lib.hid hu8
      clear hu8 hl255
      go_wp2_with fail
      refine Hu8.out.mono ?_
      rintro e w3 ⟨rfl, ho3, hs3⟩
      have O3 := Lib.hid ho3; have S3 := Lib.hid hs3
      have HCs : Hid (∀ wx, OutStep w.heap.size w2 wx → wx.ownsRow (w.alloc (.cells #[.slice none 0 0, .int .i64 0] 80)).heap.size 3 1 (.slice Ac n cc) n (intVs cs)) := Lib.hid (fun wx hs => own_typ HC.out hs (by decide) (by decide))
      have hu1 := u8_len1 n
      clear ho3 hs3
      go_wp2_with fail
      go_loopw [37] (fun i wr => ∃ k : Nat, k ≤ n ∧ i = .int .i64 (k : Int) ∧ Hid (OutIs wr w.heap.size w.heap.size (beBytes 1 n ++ levsL (lv.take k)) 0) ∧ Hid (OutStep w.heap.size w2 wr) ∧ Hid (∀ l ∈ lv.take k, l.all mayT = true)) (fun i _ => n - (intOf i).toNat)
      case atStart => exact ⟨0, Nat.zero_le _, rfl, Lib.hid (by simpa [levsL] using O3.out), S3, Lib.hid (fun l hl => by simp at hl)⟩
      case round =>
        obtain ⟨k, hk, rfl, OO, SO, HM⟩ := hrel
        rename World => wo
        have hk0 : (0 : Int) ≤ (k : Int) := by omega
        have hwk := wLs_take lv k
        have hlk := levsL_len (lv.take k)
        have hsz := SO.out.bel.size
        have hsz2 := B2.out.size
        by_cases hlt : k < n
        · have hlt' : (k : Int) < (n : Int) := by omega
          have hlv : k < lv.length := by omega
          have hlv' : (k : Int) < (lv.length : Int) := by omega
          obtain ⟨l, hl⟩ : ∃ l, lv[k]? = some l := ⟨_, List.getElem?_eq_getElem hlv⟩
          have hll := Hl255.out k l hlt hl
          obtain ⟨adc, vc, hAc, hadc, hxc, hcc⟩ := (SlR.own (HCs.out wo SO.out)).get hlt
          have hvc : vc = .int .i64 (l.length : Int) := by
            have h1 := cuts_at (lv := lv) (by rw [Hcs.out, Hn.out]; exact hlt) hl
            rw [Hcs.out] at h1
            rw [show (intVs cs)[k]? = (cs[k]?).map (fun z => Value.int .i64 z) from by unfold intVs; rw [List.getElem?_map], h1] at hxc
            injection hxc with hxc
            exact hxc.symm
          subst hvc hAc
          have hwp := wLs_part hl
          have hu1l := u8_len1 l.length
          have hu := u8_t w.heap.size w.heap.size l.length _ wo OO.out (by omega) (by rw [List.length_append]; omega) (by omega)
          obtain ⟨B1, hB1⟩ : ∃ B1, beBytes 1 n ++ levsL (lv.take k) ++ beBytes 1 l.length = B1 := ⟨_, rfl⟩
          have hB1l : B1.length = 1 + (levsL (lv.take k)).length + 1 := by rw [← hB1]; simp only [List.length_append]; omega
          rw [hB1] at hu
          have Hu := Lib.hid hu; have HB1 := Lib.hid hB1; have Hl := Lib.hid hl
          clear hu hB1 hl hxc hadc
          go_wp2_with fail
          refine Hu.out.mono ?_
          rintro e w4 ⟨rfl, ho4, hs4⟩
          have O4 := Lib.hid ho4; have S4 := Lib.hid (SO.out.trans hs4)
          have hx4 := K.out _ (B2.out.trans S4.out.bel)
          have k3 := hx4.blk.cell 3
          simp at k3
          obtain ⟨ad, vk, hA, had, hvk, hcv⟩ := (SlR.own hx4.row).get hlv
          subst hA
          obtain ⟨⟨us, hou, hus⟩, hsb⟩ := hx4.lev k vk l hvk Hl.out
          obtain ⟨Ak, ck, rfl, hnk⟩ := own_slice hou
          have KL : Hid (∀ wx, Below w.heap.size w4 wx → wx.ownsRow 0 32 1 (.slice Ak l.length ck) l.length us ∧ ∀ (j : Nat) (u : Value) (t : Tb), us[j]? = some u → l[j]? = some t → wx.ownsRow 0 27 3 u t.length (enVs t)) := Lib.hid (fun wx hb => ⟨own_below hou hb (fun q hq => HS.out q (hsb q hq)), fun j u t h1 h2 => own_below (hus j u t h1 h2).1 hb (fun q hq => HS.out q ((hus j u t h1 h2).2 q hq).1)⟩)
          clear ho4 hs4 hx4 hvk hou hus hsb had
          go_wp2_with fail
          go_loopw [52] (fun i wq => ∃ j : Nat, j ≤ l.length ∧ i = .int .i64 (j : Int) ∧ Hid (OutIs wq w.heap.size w.heap.size (B1 ++ tabsL (l.take j)) 0) ∧ Hid (OutStep w.heap.size w4 wq) ∧ Hid (∀ t ∈ l.take j, mayT t = true)) (fun i _ => l.length - (intOf i).toNat)
          case atStart => exact ⟨0, Nat.zero_le _, rfl, Lib.hid (by simpa [tabsL] using O4.out), Lib.hid (OutStep.refl _ _), Lib.hid (fun t ht => by simp at ht)⟩
          case round =>
            obtain ⟨j, hj, rfl, OI, SI, HMI⟩ := hrel
            rename World => wi
            have hj0 : (0 : Int) ≤ (j : Int) := by omega
            have hwj := wL_take l j
            have hlj := tabsL_len (l.take j)
            have hsi := SI.out.bel.size
            have hs42 := S4.out.bel.size
            by_cases hjl : j < l.length
            · obtain ⟨ad2, u2, rfl, had2, hu2, hcu2⟩ := (SlR.own (KL.out _ SI.out.bel).1).get hjl
              have hj1 : (j : Int) < (l.length : Int) := by omega
              obtain ⟨t, ht⟩ : ∃ t, l[j]? = some t := ⟨_, List.getElem?_eq_getElem hjl⟩
              have hot := (KL.out _ SI.out.bel).2 j u2 t hu2 ht
              obtain ⟨At, ct, rfl, hnt⟩ := own_slice hot
              have htf := table_few ht
              have hbd := build_any At t.length ct wi.heap.size t wi (SlR.own hot) (Nat.le_refl _) (by omega)
              have htn := tabsL_snoc ht
              have htm : t ∈ l := List.mem_of_getElem? ht
              cases hmt : mayT t with
              | false =>
                rw [buildT_no hmt] at hbd
                have hres := save_no Hbig.out (may_no (mem := mem) (by rw [Hcs.out, Hn.out]; exact hlt) Hl.out htm hmt)
                have Hbd := Lib.hid hbd; have Hres := Lib.hid hres
                clear hbd hres htn htm hmt hot hu2 ht had2
                go_wp2_with fail
                refine Hbd.out.mono ?_
                rintro e w5 ⟨rfl, hb5⟩
                have B5 := Lib.hid ((B2.out.trans (S4.out.bel.trans SI.out.bel)).trans (hb5.mono (by omega)))
                clear hb5
                go_wp2_with fail
                go_ret2
                rw [Hres.out]
                exact ⟨rfl, B5.out⟩
              | true =>
                rw [buildT_yes hmt] at hbd
                dsimp only at hbd
                obtain ⟨st, hst⟩ : ∃ st : ByteArray, (⟨(sealT t).toArray⟩ : ByteArray) = st := ⟨_, rfl⟩
                have hstl : st.data.toList = sealT t := by rw [← hst]
                have hsts : st.size ≤ 65536 := by rw [size_list, hstl, sealT_length]; omega
                have htab : textL st.data.toList = tabL t := by unfold tabL; rw [hstl, buildT_yes hmt]
                rw [hst] at hbd
                have hMn : ∀ t' ∈ l.take (j + 1), mayT t' = true := fun t' ht' => by
                  rw [take_snocT ht] at ht'
                  rcases List.mem_append.1 ht' with h | h
                  · exact HMI.out t' h
                  · simp at h; subst h; exact hmt
                have Hbd := Lib.hid hbd; have Htab := Lib.hid htab; have Htn := Lib.hid htn; have HMn := Lib.hid hMn; have Hsts := Lib.hid hsts
                clear hbd htab htn hMn htm hmt hot hu2 ht had2 hst hstl hsts
                go_wp2_with fail
                refine Hbd.out.mono ?_
                rintro e w5 ⟨rfl, hb5⟩
                have SI5 := Lib.hid (SI.out.trans (OutStep.of_below hb5 (by omega)))
                have htx := text_t w.heap.size w.heap.size _ st w5 (OI.out.under hb5 (Nat.le_refl _)) (by have := hb5.size; omega) Hsts.out (by rw [List.length_append]; omega)
                rw [Htab.out] at htx
                have Htx := Lib.hid htx
                clear htx hb5
                go_wp2_with fail
                refine Htx.out.mono ?_
                rintro e w6 ⟨rfl, ho6, hs6⟩
                have O6 := Lib.hid ho6; have S6 := Lib.hid (SI5.out.trans hs6)
                clear ho6 hs6
                go_wp2_with fail
                go_roundw
                case rel => exact ⟨j + 1, by omega, by go_num, Lib.hid (by rw [Htn.out, ← List.append_assoc]; exact O6.out), S6, HMn⟩
                case measure => simp [intOf]; omega
            · obtain rfl : j = l.length := by omega
              have djj : decide (l.length < l.length) = false := by simp
              have hOf := OI.out
              rw [List.take_of_length_le (Nat.le_refl _), ← HB1.out] at hOf
              have hMf := HMI.out
              rw [List.take_of_length_le (Nat.le_refl _)] at hMf
              have hsn := levsL_snoc Hl.out
              have hOn : OutIs wi w.heap.size w.heap.size (beBytes 1 n ++ levsL (lv.take (k + 1))) 0 := by
                rw [hsn]; unfold levL; simpa only [List.append_assoc] using hOf
              have hMn : ∀ l' ∈ lv.take (k + 1), l'.all mayT = true := fun l' hl' => by
                rw [take_snocT Hl.out] at hl'
                rcases List.mem_append.1 hl' with h | h
                · exact HM.out l' h
                · simp at h; subst h; exact List.all_eq_true.2 hMf
              have HOn := Lib.hid hOn; have HMn := Lib.hid hMn
              clear hOf hMf hsn hOn hMn hjl
              go_wp2_with fail
              go_roundw
              case rel => exact ⟨k + 1, by omega, by go_num, HOn, Lib.hid (S4.out.trans SI.out), HMn⟩
              case measure => simp [intOf]; omega
        · obtain rfl : k = n := by omega
          have dkk : decide (k < k) = false := by simp
          clear hlt
          have hx4 := K.out _ (B2.out.trans SO.out.bel)
          have k2 := hx4.blk.cell 2
          simp at k2
          have hall := all_any 0 T r mem wo hx4.tab (by omega)
          have Hall := Lib.hid hall
          clear hall hx4
          go_wp2_with fail
          refine Hall.out.mono ?_
          rintro e w5 ⟨u5, rfl, ho5, hb5⟩
          obtain ⟨Am, cm, rfl, hnm⟩ := own_slice ho5
          have hbd := build_any Am mem.length cm w5.heap.size mem w5 (SlR.own ho5) (Nat.le_refl _) (by omega)
          have B5 := Lib.hid hb5
          cases hmt : mayT mem with
          | false =>
            rw [buildT_no hmt] at hbd
            have hres := save_no Hbig.out (may_mem (lv := lv) hmt)
            have Hbd := Lib.hid hbd; have Hres := Lib.hid hres
            clear hbd hres hmt ho5 hb5
            go_wp2_with fail
            refine Hbd.out.mono ?_
            rintro e w6 ⟨rfl, hb6⟩
            have B6 := Lib.hid ((B2.out.trans SO.out.bel).trans ((B5.out.trans (hb6.mono B5.out.size)).mono (by omega)))
            clear hb6
            go_wp2_with fail
            go_ret2
            rw [Hres.out]
            exact ⟨rfl, B6.out⟩
          | true =>
            rw [buildT_yes hmt] at hbd
            dsimp only at hbd
            have hres := save_yes Hbig.out (may_yes (by rw [Hcs.out, Hn.out]; exact HM.out) hmt)
            obtain ⟨st, hst⟩ : ∃ st : ByteArray, (⟨(sealT mem).toArray⟩ : ByteArray) = st := ⟨_, rfl⟩
            have hstl : st.data.toList = sealT mem := by rw [← hst]
            have hsts : st.size ≤ 65536 := by rw [size_list, hstl, sealT_length]; omega
            have htab : textL st.data.toList = tabL mem := by unfold tabL; rw [hstl, buildT_yes hmt]
            rw [hst] at hbd
            have hbody : bodyX (mem, lv) = beBytes 1 k ++ levsL (lv.take k) ++ tabL mem := by unfold bodyX trimX; dsimp only; rw [Hcs.out, Hn.out]
            have Hbd := Lib.hid hbd; have Htab := Lib.hid htab; have Hsts := Lib.hid hsts; have Hres := Lib.hid hres; have Hbody := Lib.hid hbody
            clear hbd htab hmt ho5 hb5 hst hstl hsts hres hbody
            go_wp2_with fail
            refine Hbd.out.mono ?_
            rintro e w6 ⟨rfl, hb6⟩
            have B6 := Lib.hid (B5.out.trans (hb6.mono B5.out.size))
            have htx := text_t w.heap.size w.heap.size _ st w6 (OO.out.under B6.out (Nat.le_refl _)) (by have := B6.out.size; omega) Hsts.out (by rw [List.length_append]; omega)
            rw [Htab.out, ← Hbody.out] at htx
            obtain ⟨body, hbo⟩ : ∃ body, bodyX (mem, lv) = body := ⟨_, rfl⟩
            rw [hbo] at htx Hres hblen
            have Htx := Lib.hid htx
            clear htx hb6 hbo
            go_wp2_with fail
            refine Htx.out.mono ?_
            rintro e w7 ⟨rfl, ho7, hs7⟩
            have B7 := Lib.hid (((B2.out.trans SO.out.bel).trans (B6.out.mono (by omega))).trans hs7.bel)
            have hdn := done_ok w.heap.size w.heap.size body w7 ho7
            obtain ⟨sb, hsb⟩ : ∃ sb : ByteArray, (⟨body.toArray⟩ : ByteArray) = sb := ⟨_, rfl⟩
            have hsbl : sb.data.toList = body := by rw [← hsb]
            rw [hsb] at hdn
            have hseal := seal_any sb w7 (by rw [size_list, hsbl]; omega)
            rw [hsbl] at hseal
            obtain ⟨sr, hsr⟩ : ∃ sr : ByteArray, (⟨(sum4 body ++ body).toArray⟩ : ByteArray) = sr := ⟨_, rfl⟩
            have hsrl : sr.size ≤ 60000 := by rw [← hsr]; simp only [ByteArray.size, List.size_toArray, List.length_append, sum4_length]; omega
            rw [hsr] at hseal
            have hsri : ¬ ((60000 : Int) < (sr.size : Int)) := by omega
            have Hdn := Lib.hid hdn; have Hseal := Lib.hid hseal; have Hsr := Lib.hid hsr
            clear hdn hseal ho7 hs7 hsb hsbl hsr
            go_wp2_with fail
            refine Hdn.out.mono ?_
            rintro e w7' ⟨rfl, rfl⟩
            go_wp2_with fail
            refine Hseal.out.mono ?_
            rintro e w8 ⟨rfl, hb8⟩
            have B8 := Lib.hid (B7.out.trans (hb8.mono (by have := B7.out.size; omega)))
            clear hb8
            go_wp2_with fail
            go_ret2
            rw [Hres.out]
            dsimp only
            rw [Hsr.out]
            exact ⟨rfl, B8.out⟩
end Go.Proofs.Ytfjilngofdahgaa
