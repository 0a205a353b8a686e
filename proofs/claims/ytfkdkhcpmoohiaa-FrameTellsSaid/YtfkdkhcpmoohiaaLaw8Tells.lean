/- chapter 8: FrameTells, walked. -/
import Derived.Test.YtfkdkhcpmoohiaaLaw8
import Derived.Test.YtfkdkhcpmoohiaaRefLast
import Derived.Test.YtfkdkhcpmoohiaaApartT
namespace Go.Proofs.Ytfkdkhcpmoohiaa
open Go.RowKit
set_option maxHeartbeats 4000000
set_option maxRecDepth 100000
set_option linter.unusedVariables false

/-- a book that has lists of texts alone -/
def bookCs (tv wv : Value) : Array Value := #[tv, wv, .slice none 0 0, .slice none 0 0, .slice none 0 0, .slice none 0 0, .slice none 0 0, .slice none 0 0, .slice none 0 0, .slice none 0 0, .slice none 0 0, .slice none 0 0]
theorem bookCs_set (tv wv tv' wv' : Value) : ((bookCs tv wv).setIfInBounds 0 tv').setIfInBounds 1 wv' = bookCs tv' wv' := rfl
theorem bookCs_nil (tv wv : Value) : ∀ i, i = 2 ∨ i = 4 ∨ i = 6 ∨ i = 8 ∨ i = 10 → (bookCs tv wv)[i]? = some (.slice none 0 0) := by
  intro i h
  rcases h with rfl | rfl | rfl | rfl | rfl <;> rfl

theorem own_at {w : World} {base : Nat} {e : TypeId} {size n m c : Nat} {A : Option Addr} {xs : List Value} (h : w.ownsRow base e size (.slice A n c) m xs) : ∀ ad, A = some ad → base ≤ ad.block ∧ ad.block < w.heap.size := by
  intro ad hA
  subst hA
  rcases h.2 with ⟨h0, _⟩ | ⟨g', cap, cur, hv, hbg, hh, _⟩
  · cases h0
  · obtain rfl : ad = ⟨g', 0, none⟩ := by injection hv with h1; injection h1
    exact ⟨hbg, (Array.getElem?_eq_some_iff.1 hh).1⟩

theorem frameTells_any (body b : ByteArray) (w : World) (h1 : body.size ≤ 9223372036854775807) (h2 : b.size ≤ 9223372036854775807) :
    Calls Try.prog 7 #[.string body, .string b] w fun e w' => e = .returned (.bool true) ∧ Below w.heap.size w w' := by
  by_cases t0 : body.size ≤ 4200
  · by_cases t1 : b.size ≤ 6000
    · obtain ⟨P, hP⟩ : ∃ P, putL body.data.toList = P := ⟨_, rfl⟩
      obtain ⟨F, hF⟩ : ∃ F, firstL b.data.toList = F := ⟨_, rfl⟩
      obtain ⟨L, hL⟩ : ∃ L, lastL b.data.toList = L := ⟨_, rfl⟩
      obtain ⟨A, hA⟩ : ∃ A, framesL b.data.toList = A := ⟨_, rfl⟩
      have hput := fun w => fput_any body w (by omega)
      have hput2 := fun w => refFrame_any body w (by omega)
      have hfst := fun w => first_any b w (by omega)
      have hfst2 := fun w => refFirst_any b w (by omega)
      have hlst := fun w => last_any b w (by omega)
      have hlst2 := fun w => refLast_any b w (by omega)
      have hall := fun w => all_any b w (by omega)
      have hall2 := fun w => refFrames_any b w (by omega)
      have hfew : A.1.length ≤ 6000 := by
        have := framesL_few b.data.toList
        rw [hA] at this
        have h3 := size_list b
        omega
      rw [hP] at hput hput2
      rw [hF] at hfst hfst2
      rw [hL] at hlst hlst2
      rw [hA] at hall hall2
      have Hput := Lib.hid hput; have Hput2 := Lib.hid hput2; have Hfst := Lib.hid hfst; have Hfst2 := Lib.hid hfst2; have Hlst := Lib.hid hlst; have Hlst2 := Lib.hid hlst2; have Hall := Lib.hid hall; have Hall2 := Lib.hid hall2
      clear hput hput2 hfst hfst2 hlst hlst2 hall hall2 hP hF hL hA
      go_enter Try.func7, Try.ntmps7
      go_wp2_with fail
      refine (Hput.out _).mono ?_
      rintro e w1 ⟨rfl, hb1⟩
      go_wp2_with fail
      refine (Hput2.out _).mono ?_
      rintro e w2 ⟨rfl, hb2⟩
      go_wp2_with fail
      refine (Hfst.out _).mono ?_
      rintro e w3 ⟨rfl, hb3⟩
      go_wp2_with fail
      refine (Hfst2.out _).mono ?_
      rintro e w4 ⟨rfl, hb4⟩
      go_wp2_with fail
      refine (Hlst.out _).mono ?_
      rintro e w5 ⟨rfl, hb5⟩
      go_wp2_with fail
      refine (Hlst2.out _).mono ?_
      rintro e w6 ⟨rfl, hb6⟩
      have hb06 : Below w.heap.size w w6 := hb1.trans ((hb2.trans ((hb3.trans ((hb4.trans ((hb5.trans (hb6.mono hb5.size)).mono hb4.size)).mono hb3.size)).mono hb2.size)).mono hb1.size)
      clear hb1 hb2 hb3 hb4 hb5 hb6
      have hBk : BlkIs (w6.alloc (.cells (bookCs (.slice none 0 0) (.slice none 0 0)) 47)) w6.heap.size 47 (bookCs (.slice none 0 0) (.slice none 0 0)) := BlkIs.new _ _ _
      unfold bookCs at hBk
      have HBk := Lib.hid hBk; have Hb06 := Lib.hid hb06
      clear hBk hb06
      go_wp2_with fail
      refine (Hall2.out _).mono ?_
      rintro e w7 ⟨wv0, rfl, hown7, hb7⟩
      obtain ⟨Aw, cw, rfl, hcw⟩ := own_slice hown7
      have hg6 : w6.heap.size < w7.heap.size := by have := hb7.size; simp at this; omega
      have hne : ∀ ad, Aw = some ad → ad.block ≠ w6.heap.size := fun ad h e => by have := (own_at hown7 ad h).1; simp at this; omega
      have hwant := SlR.own hown7
      have hB7 := HBk.out.below hb7 HBk.out.lt
      have hb07 : Below w.heap.size w w7 := (Hb06.out.alloc Hb06.out.size _).trans (hb7.mono (by have := Hb06.out.size; simp; omega))
      have hwb : w.heap.size ≤ w6.heap.size := Hb06.out.size
      have HB7 := Lib.hid hB7; have Hwant := Lib.hid hwant; have Hb07 := Lib.hid hb07; have Hne := Lib.hid hne
      clear hown7 hb7 hwant hB7 hb07 hne
      obtain ⟨ts, hts⟩ : ∃ ts, A.1.map mkS = ts := ⟨_, rfl⟩
      have htl : ts.length = A.1.length := by rw [← hts, List.length_map]
      rw [hts] at Hall Hwant
      have hlen : (strVs ts).length ≤ 1000000000 := by rw [strVs, List.length_map]; omega
      clear hts
      go_wp2_with fail
      go_loopw [24] (fun i wr => ∃ (k : Nat) (tv wv : Value) (vs ws : List Value) (xss : List (List Value)), k ≤ 2 ∧ i = .int .i64 k ∧ BlkIs wr w6.heap.size 47 (bookCs tv wv) ∧ KindT wr w7.heap.size tv wv vs ws xss ∧ vs.length = k ∧ w7.heap.size ≤ wr.heap.size ∧ SlR wr w7.heap.size 1 Aw A.1.length (strVs ts) ∧ Below w.heap.size w wr) (fun i _ => 2 - (intOf i).toNat)
      case atStart => exact ⟨0, _, _, [], [], [], by omega, rfl, HB7.out, KindT.nil _ _, rfl, Nat.le_refl _, Hwant.out, Hb07.out⟩
      case round =>
        obtain ⟨k, tv, wv, vs, ws, xss, hk, rfl, hB, hK, hvl, hsz, hsw, hb⟩ := hrel
        by_cases hlt : k < 2
        · have i1 : (k : Int) < 2 := by omega
          have HB := Lib.hid hB; have HK := Lib.hid hK; have Hvl := Lib.hid hvl; have Hsw := Lib.hid hsw
          clear hB hK hvl hsw
          go_wp2_with fail
          refine (Hall.out _).mono ?_
          rintro e w8 ⟨lv, rfl, hown8, hb8⟩
          have hB8 := HB.out.below hb8 HB.out.lt
          have hK8 := HK.out.below hb8 (Nat.le_refl _)
          have hsw8 := Hsw.out.below (hb8.mono hsz)
          have hsz8 : w7.heap.size ≤ w8.heap.size := Nat.le_trans hsz hb8.size
          have hap8 : ∀ (i : Nat) (u : Value) (b : Nat), vs[i]? = some u → lv.ownBlock = some b → u.ownBlock ≠ some b := fun i u b hu hb2 e => by
            have h1 := (HK.out.lv.lt hu e).2
            have h2 := (hown8.lt b hb2).1
            omega
          have hb08 := hb.trans (hb8.mono (Nat.le_trans hwb (Nat.le_trans (Nat.le_of_lt hg6) hsz)))
          have hbk := bookTexts_any w6.heap.size w7.heap.size A.1.length (bookCs tv wv) tv wv lv vs ws xss (strVs ts) w8 hB8 rfl rfl hg6 hsz8 hK8 (own_base hown8 hsz) hap8 (by rw [Hvl.out]; omega) ⟨ts, rfl⟩ (by omega)
          have Hbk := Lib.hid hbk; have Hsw8 := Lib.hid hsw8; have Hb08 := Lib.hid hb08
          have hxl : xss.length = k := by have := HK.out.lv.len; have := Hvl.out; omega
          have Hxl := Lib.hid hxl
          clear hB8 hK8 hsw8 hap8 hb08 hbk hown8 hb8 hxl hb
          go_wp2_with fail
          refine Hbk.out.mono ?_
          rintro e w9 ⟨tv', wv', v2, rfl, hB9, hK9, hbb9⟩
          rw [bookCs_set] at hB9
          have hsw9 := Hsw8.out.but hbb9 Hne.out
          have hsz9 : w7.heap.size ≤ w9.heap.size := Nat.le_trans hsz8 hbb9.size
          have hs1 : Shows w9 1 lv (strVs ts) := hK9.lv.shows (k := k) (by rw [List.getElem?_append_right (by rw [Hvl.out]; exact Nat.le_refl _), Hvl.out, Nat.sub_self]; rfl) (by rw [List.getElem?_append_right (by rw [Hxl.out]; exact Nat.le_refl _), Hxl.out, Nat.sub_self]; rfl)
          have hs2 : Shows w9 1 (.slice Aw A.1.length cw) (strVs ts) := ⟨Aw, A.1.length, cw, rfl, hsw9.more hsz9, hcw⟩
          have hb09 := Hb08.out.trans (hbb9.below (Nat.le_trans hwb (Nat.le_of_lt hg6)) hwb)
          have hvl9 : (vs ++ [lv]).length = k + 1 := by rw [List.length_append, Hvl.out]; rfl
          have HB9 := Lib.hid hB9; have HK9 := Lib.hid hK9; have Hsw9 := Lib.hid hsw9; have Hs1 := Lib.hid hs1; have Hs2 := Lib.hid hs2; have Hb09 := Lib.hid hb09; have Hvl9 := Lib.hid hvl9
          clear hB9 hK9 hsw9 hs1 hs2 hb09 hvl9 hbb9
          go_wp2_with (go_at_call 14; refine (sameTexts_shows _ _ (strVs ts) _ Hs1.out Hs2.out ⟨ts, rfl⟩ hlen).mono ?_; rintro e w10 ⟨rfl, k10, rfl⟩)
          go_roundw
          case rel => exact ⟨k + 1, _, _, _, _, _, by omega, by go_num, HB9.out.drewN k10, HK9.out.drewN k10, Hvl9.out, hsz9, Hsw9.out.drewN k10, below_drewN Hb09.out k10⟩
          case measure => simp [intOf]; omega
        · obtain rfl : k = 2 := by omega
          have HB := Lib.hid hB; have HK := Lib.hid hK; have Hvl := Lib.hid hvl
          clear hB hK hvl hsw
          go_wp2_with fail
          refine (alive8_any _).mono ?_
          rintro e w8 ⟨rfl, hb8⟩
          have hap := apartT_any w6.heap.size w7.heap.size (bookCs tv wv) tv wv vs ws xss w8 (HB.out.below hb8 HB.out.lt) rfl rfl (bookCs_nil _ _) hg6 (Nat.le_trans hsz hb8.size) (HK.out.below hb8 (Nat.le_refl _)) (by rw [Hvl.out]; omega)
          have Hap := Lib.hid hap
          have hb08 := hb.trans (hb8.mono (Nat.le_trans hwb (Nat.le_trans (Nat.le_of_lt hg6) hsz)))
          clear hap hb8 hb
          go_wp2_with fail
          refine Hap.out.mono ?_
          rintro e w9 ⟨rfl, hb9⟩
          go_wp2_with fail
          go_ret
          exact ⟨rfl, hb08.trans (hb9.mono (Nat.le_trans hwb (Nat.le_of_lt hg6)))⟩
    · have t1' : 6000 < b.size := by omega
      clear t1
      go_enter Try.func7, Try.ntmps7
      go_wp2_with fail
      refine (alive8_any _).mono ?_
      rintro e w1 ⟨rfl, hb1⟩
      go_wp2_with fail
      go_ret
      exact ⟨rfl, hb1⟩
  · have t0' : 4200 < body.size := by omega
    clear t0
    go_enter Try.func7, Try.ntmps7
    go_wp2_with fail
    refine (alive8_any _).mono ?_
    rintro e w1 ⟨rfl, hb1⟩
    go_wp2_with fail
    go_ret
    exact ⟨rfl, hb1⟩
end Go.Proofs.Ytfkdkhcpmoohiaa
