/- chapter 14: put. -/
import Derived.Test.YtfjilngofdahgaaIxPutLaw
import Derived.Deep.RegionLaw
namespace Go.Proofs.Ytfjilngofdahgaa
open Go.RowKit
set_option maxHeartbeats 4000000
set_option maxRecDepth 100000
set_option linter.unusedVariables false

theorem info_lv : (Try.prog.info? 57).map (fun i => (i.zero, i.size, i.bytes)) = some (some (.slice none 0 0), 1, 24) := by kernel_rfl
theorem info_tb : (Try.prog.info? 32).map (fun i => (i.zero, i.size, i.bytes)) = some (some (.slice none 0 0), 1, 24) := by kernel_rfl
def lvN (g : Nat) (w : World) : Nat := match w.cell? ⟨g, 3, none⟩ with | some (.slice _ n _) => n | _ => 0
theorem lvN_at {w : World} {S : Nat → Prop} {g T : Nat} {room most : Int} {mem : Tb} {lv : List Lv} {r : Option Nat} {v : Value} {vs : List Value} (h : IxAt w S g room most (mem, lv) T r v vs) : lvN g w = lv.length := by
  obtain ⟨A, c, rfl, _⟩ := own_slice h.row
  have := h.blk.cell 3
  simp at this
  unfold lvN
  rw [this]
theorem own_row {w : World} {base e c n : Nat} {v : Value} {xs : List Value} (h : w.ownsRow base e c v n xs) (hn : 0 < n) : ∃ o cap, v = .slice (some ⟨o, 0, none⟩) n cap ∧ n ≤ cap := by
  rcases h.2 with ⟨_, h0⟩ | ⟨o, cap, cur, hv, _, _, hc, _⟩
  · omega
  · exact ⟨o, cap, hv, hc⟩

theorem own_free {w : World} {base e c n cap o : Nat} {xs : List Value} (h : w.ownsRow base e c (.slice (some ⟨o, 0, none⟩) n cap) n xs) (k : Nat) : w.frozen? ⟨o, k, none⟩ = false := by
  obtain ⟨_, _, _, cur, hcur, _⟩ := own_block h
  simp [World.frozen?, hcur]
theorem put_in {lv : List Lv} {k : Nat} {l : Lv} {t : Tb} (h : lv[k]? = some l) : putX lv k t = lv.set k (l ++ [t]) := by
  obtain ⟨hk, hx⟩ := List.getElem?_eq_some_iff.1 h
  unfold putX
  rw [if_pos hk]
  apply List.ext_getElem?
  intro i
  rw [List.getElem?_modify, List.getElem?_set]
  by_cases hi : k = i
  · subst hi; simp [hk, hx]
  · simp [hi]
theorem put_new {lv : List Lv} {t : Tb} : putX lv lv.length t = (lv ++ [[]]).set lv.length ([] ++ [t]) := by
  unfold putX
  rw [if_neg (by omega)]
  simp

theorem putX_any (S : Nat → Prop) (g : Nat) (room most : Int) (mem : Tb) (lv : List Lv) (k : Nat) (u : Value) (t : Tb) (w : World) (h : IxIs w S g room most (mem, lv)) (hw : wLs lv ≤ 900000) (hk : k ≤ lv.length)
    (hu : w.ownsRow 0 27 3 u t.length (enVs t)) (hun : ∀ b, u.ownBlock = some b → ¬ S b) :
    Calls Try.prog 37 #[.pointer (some ⟨g, 0, none⟩), .int .i64 (k : Int), u] w fun e w' => e = .returned (.tuple #[]) ∧ ∃ S', IxIs w' S' g room most (mem, putX lv k t) ∧ Chg S w w' ∧ ∀ b, S' b → S b ∨ u.ownBlock = some b ∨ w.heap.size ≤ b := by
  obtain ⟨i0, hi0, hz0, hz1, hz2⟩ := info_parts info_lv
  obtain ⟨j0, hj0, hy0, hy1, hy2⟩ := info_parts info_tb
  have hfl := flats_len lv
  have hlv9 : lv.length ≤ 900000 := by omega
  have hlev : ∀ (i : Nat) (l : Lv), lv[i]? = some l → l.length ≤ 900000 := fun i l hl => by have h1 := level_few hl; have h2 := flat_len l; omega
  obtain ⟨Au, cu, rfl, hnu⟩ := own_slice hu
  have H := Lib.hid h; have Hu := Lib.hid hu; have Hun := Lib.hid hun; have Hlev := Lib.hid hlev
  clear h hu hun hlev hfl
  have hk0 : (0 : Int) ≤ (k : Int) := by omega
  go_enter Try.func37, Try.ntmps37
  go_wp2_with fail
  go_loopw [] (fun wr => ∃ S1 lv1, IxIs wr S1 g room most (mem, lv1) ∧ Chg S w wr ∧ (∀ b, S1 b → S b ∨ w.heap.size ≤ b) ∧ (lv1 = lv ∨ (k = lv.length ∧ lv1 = lv ++ [[]]))) (fun wr => k + 1 - lvN g wr)
  case atStart => exact ⟨S, lv, H.out, Chg.refl _ _, fun b hb => .inl hb, .inl rfl⟩
  case round =>
    obtain ⟨S1, lv1, ⟨T, r, v, vs, hi⟩, hc, hs1, hor⟩ := hrel
    have hvl : vs.length = lv1.length := by have := hi.row.1; simpa using this
    have hl1 : lv1.length ≤ 900001 := by
      rcases hor with rfl | ⟨_, rfl⟩
      · omega
      · simp; omega
    have k3 := hi.blk.cell 3
    simp at k3
    have hgl := hi.blk.lt
    have hlN := lvN_at hi
    have HI := Lib.hid hi; have HC := Lib.hid hc; have HS1 := Lib.hid hs1; have Hor := Lib.hid hor; have HlN := Lib.hid hlN
    clear hi hc hs1 hor hlN
    by_cases hgo : lv1.length ≤ k
    · obtain ⟨Av, cv, rfl, hnv⟩ := own_slice HI.out.row
      dsimp only at HI k3
      have hor := Hor.out
      have hkl : k = lv.length ∧ lv1 = lv := by
        rcases hor with rfl | ⟨h1, rfl⟩
        · exact ⟨by omega, rfl⟩
        · simp at hgo; omega
      obtain ⟨hkk, rfl⟩ := hkl
      have d1 : (lv1.length : Int) ≤ (k : Int) := by omega
      clear hor Hor
      go_wp2_with (at_builtin; refine wpList_append_lies _ rfl (.tmp 17) (.tmp 18) _ rfl 0 57 i0 _ 1 24 Try.underlying53 hi0 hz0 hz1 hz2 rfl (by omega) (.slice Av lv1.length cv) lv1.length vs rfl (HI.out.row.alloc _) ⟨wr.heap.size, 0, none⟩ 1 1 [.slice none 0 0] rfl rfl (World.news_of_block (cs := #[.slice none 0 0]) (heap_alloc_new wr _)) (by simp [Value.oneCell']) (by omega) (by simp only [maxLen]; omega) (by omega) (by simp) (wr.heap.size + 1) (by simp) ?_; intro g3 cp w3 hown3 hgrow hat3 hlt3; have hb1 : Below wr.heap.size wr (wr.alloc (.cells #[.slice none 0 0] 57)) := (Below.refl _ _).alloc (Nat.le_refl _) _; have hblk := (HI.out.blk.below hb1 HI.out.blk.lt).grown hgrow (fun e => HI.out.dvg e.symm); have q3 := hblk.cell 3; have q3f := hblk.free 3; simp at q3; have HB1 := Lib.hid hb1; have H3 := Lib.hid hown3; have HG := Lib.hid hgrow; have HA3 := Lib.hid hat3; clear hown3 hgrow hat3 hblk hb1)
      have hext := HI.out.ext HB1.out (.slice (some ⟨g3, 0, none⟩) (lv1.length + 1) cp) H3.out HG.out (fun b hb => by
        have e : g3 = b := by simpa [Value.ownBlock] using hb
        rcases HA3.out with h | h
        · exact .inl (by rw [← e]; exact h)
        · exact .inr (by omega))
      obtain ⟨he1, he2⟩ := hext
      have HE1 := Lib.hid he1; have HE2 := Lib.hid he2
      clear he1 he2
      go_roundw
      case rel =>
        refine ⟨_, lv1 ++ [[]], ⟨T, r, _, _, HE1.out⟩, HC.out.trans HE2.out (fun b hb hs => ?_), fun b hb => ?_, (by first | exact .inr ⟨hkk, rfl⟩ | exact .inr hkk | simp [hkk])⟩
        · rcases HS1.out b hs with h | h
          · exact h
          · omega
        · rcases hb with hb | hb
          · exact HS1.out b hb
          · have e : g3 = b := by simpa [Value.ownBlock] using hb
            rcases HA3.out with h | h
            · exact HS1.out b (HI.out.sv b (by rw [← e]; exact h))
            · have := HC.out.size
              exact .inr (by omega)
      case measure =>
        have h1 := lvN_at HE1.out
        have h2 := HlN.out
        simp only [List.length_append, List.length_cons, List.length_nil] at h1
        rw [h1, h2]
        omega
    · have d1 : decide ((lv1.length : Int) ≤ (k : Int)) = false := decide_eq_false (by omega)
      have hk1 : k < lv1.length := by omega
      have hk2 : (k : Int) < (lv1.length : Int) := by omega
      obtain ⟨o, cap, rfl, hcap⟩ := own_row HI.out.row (by dsimp only; omega)
      dsimp only at HI k3 hcap
      obtain ⟨ad, vk, hA, had, hvk, hcv⟩ := (SlR.own HI.out.row).get hk1
      injection hA with hA
      subst hA
      obtain ⟨l, hl⟩ : ∃ l, lv1[k]? = some l := ⟨_, List.getElem?_eq_getElem hk1⟩
      obtain ⟨⟨us, hou, hus⟩, hsk⟩ := HI.out.lev k vk l hvk hl
      obtain ⟨Ak, ck, rfl, hnk⟩ := own_slice hou
      have hl9 : l.length ≤ 900000 := by
        rcases Hor.out with rfl | ⟨_, rfl⟩
        · exact Hlev.out k l hl
        · rcases Nat.lt_or_ge k lv.length with h1 | h1
          · rw [List.getElem?_append_left h1] at hl; exact Hlev.out k l hl
          · rw [List.getElem?_append_right h1] at hl
            rcases Nat.eq_zero_or_pos (k - lv.length) with h0 | h0
            · rw [h0] at hl; have : l = [] := by simpa using hl.symm
              subst this; simp
            · rw [List.getElem?_eq_none (by simp; omega)] at hl; cases hl
      have had0 : (⟨o, 0, none⟩ : Addr).add k = ⟨o, k, none⟩ := by rw [Addr.add_lit, Nat.zero_add]
      rw [had0] at hcv
      have ho1 : o < wr.heap.size := (HI.out.row.lt o rfl).2
      have hbA : Below wr.heap.size wr (wr.alloc (.cells #[.slice Au t.length cu] 32)) := (Below.refl _ _).alloc (Nat.le_refl _) _
      have k3a := (hbA.cell (p := ⟨g, 3, none⟩) hgl).trans k3
      have hcva := (hbA.cell (p := ⟨o, k, none⟩) ho1).trans hcv
      have Hou := Lib.hid hou; have Hvk := Lib.hid hvk; have Hl := Lib.hid hl; have Hus := Lib.hid hus; have HbA := Lib.hid hbA
      have hne1 : (Value.slice Ak l.length ck).ownBlock ≠ some g := own_ne_blk hou HI.out.blk (by decide)
      have hne2 : (Value.slice Ak l.length ck).ownBlock ≠ some o := fun e => own_type hou HI.out.row (by decide) e rfl
      clear hou hvk hl hus hsk hbA had
      go_wp2_with fail
      go_region_law (first
        | (refine step_append_lies _ (by rfl) (.tmp 33) (.tmp 35) _ (by rfl) 0 32 j0 _ 1 24 Try.underlying57 hj0 hy0 hy1 hy2 rfl (by omega) (.slice Ak l.length ck) l.length us (by simp [Act.eval, Act.put]) (own_drew (Hou.out.alloc _)) ⟨wr.heap.size, 0, none⟩ 1 1 [.slice Au t.length cu] (by simp [Act.eval, Act.put]) (by rfl) (World.news_of_block (cs := #[.slice Au t.length cu]) (heap_alloc_new wr _)) (by simp [Value.oneCell']) (by omega) (by simp only [maxLen]; omega) (by omega) (by simp) _ rfl ?_; intro g4 c4 w4 hown4 hgrow4 hat4 hlt4; have H4 := Lib.hid hown4; have HG4 := Lib.hid hgrow4; have HA4 := Lib.hid hat4; have k3b := HG4.out.cell (a := ⟨g, 3, none⟩) k3a (fun e => hne1 e.symm); have hcvb := HG4.out.cell (a := ⟨o, k, none⟩) hcva (fun e => hne2 e.symm); have HC4 : Hid (Chg (fun b => (Value.slice Ak l.length ck).ownBlock = some b) wr w4) := Lib.hid ((Chg.of_below HbA.out).drew.grown HG4.out (fun q hq _ => hq)); have hrow4 := own_chg HI.out.row HC4.out (fun q hq e => hne2 (e.trans hq.symm)); have hfb := own_free hrow4 k; clear hown4 hgrow4 hat4 hrow4))
      all_goals
        have hput : lv1.set k (l ++ [t]) = putX lv k t := by
          rcases Hor.out with rfl | ⟨rfl, rfl⟩
          · exact (put_in Hl.out).symm
          · have hl := Hl.out
            rw [List.getElem?_append_right (Nat.le_refl _), Nat.sub_self] at hl
            have : l = [] := by simpa using hl.symm
            subst this
            exact put_new.symm
        have hu4 : w4.ownsRow 0 27 3 (.slice Au t.length cu) t.length (enVs t) := own_chg (own_chg Hu.out HC.out (fun b hb => Hun.out b hb)) HC4.out (fun q hq e => own_type (own_chg Hu.out HC.out (fun b hb => Hun.out b hb)) Hou.out (by decide) hq e)
        have hlev := HI.out.level Hvk.out HC4.out (fun b => S1 b ∨ g4 = b ∨ (Value.slice Au t.length cu).ownBlock = some b) (fun b hb => .inl hb) (fun b hb => by
            have h0 := HC4.out.size
            rcases hb with hb | hb | hb
            · exact Nat.lt_of_lt_of_le (HI.out.lt b hb) h0
            · omega
            · exact (hu4.lt b hb).2)
          (.slice (some ⟨g4, 0, none⟩) (l.length + 1) c4) (l ++ [t])
          ⟨us ++ [.slice Au t.length cu], by rw [show (l ++ [t]).length = l.length + 1 from by simp]; exact H4.out, fun j u' t' k1 k2 => by
            have hul : us.length = l.length := by have := Hou.out.1; simpa using this
            rcases Nat.lt_or_ge j l.length with hj | hj
            · rw [List.getElem?_append_left (by omega)] at k1
              rw [List.getElem?_append_left hj] at k2
              obtain ⟨k3, k4⟩ := Hus.out j u' t' k1 k2
              exact ⟨own_chg k3 HC4.out (fun q hq e => own_type k3 Hou.out (by decide) hq e), fun b hb => ⟨.inl (k4 b hb).1, (k4 b hb).2⟩⟩
            · rw [List.getElem?_append_right (by omega)] at k1
              rw [List.getElem?_append_right hj] at k2
              rcases Nat.eq_zero_or_pos (j - l.length) with h0 | h0
              · rw [h0] at k2; rw [hul, h0] at k1
                have e1 : u' = .slice Au t.length cu := by simpa using k1.symm
                have e2 : t' = t := by simpa using k2.symm
                subst e1 e2
                refine ⟨hu4, fun b hb => ⟨.inr (.inr hb), fun e => ?_⟩⟩
                have h1 := HI.out.sr b e.symm
                rcases HS1.out b h1 with h2 | h2
                · exact Hun.out b hb h2
                · have := (Hu.out.lt b hb).2; omega
              · rw [List.getElem?_eq_none (by simp; omega)] at k2; cases k2⟩
          (fun b hb => .inr (.inl (by simpa [Value.ownBlock] using hb)))
          (fun b hb => by
            have e : g4 = b := by simpa [Value.ownBlock] using hb
            rcases HA4.out with h | h
            · exact .inl (by rw [← e]; exact h)
            · right; rw [← e, h]; simp)
        obtain ⟨hx1, hx2⟩ := hlev
        rw [hput] at hx1
        have HX1 := Lib.hid hx1; have HX2 := Lib.hid hx2
        clear hx1 hx2 hu4 hput
        go_wp2_with fail
        go_end0
        refine ⟨rfl, _, ⟨T, r, _, _, HX1.out⟩, HC.out.trans HX2.out (fun b hb hs => ?_), fun b hb => ?_⟩
        · rcases HS1.out b hs with h | h
          · exact h
          · omega
        · rcases hb with hb | hb | hb
          · rcases HS1.out b hb with h | h
            · exact .inl h
            · exact .inr (.inr h)
          · have hsz := HC.out.size
            rcases HA4.out with h | h
            · rcases HS1.out b ((HI.out.lev k _ l Hvk.out Hl.out).2 b (by rw [← hb]; exact h)) with h2 | h2
              · exact .inl h2
              · exact .inr (.inr h2)
            · right; right; rw [← hb, h]; simp; omega
          · exact .inr (.inl hb)
end Go.Proofs.Ytfjilngofdahgaa
