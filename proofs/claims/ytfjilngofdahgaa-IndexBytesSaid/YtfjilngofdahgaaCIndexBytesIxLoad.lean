/- chapter 14: Load, walked. -/
import Derived.Test.YtfjilngofdahgaaCIndexBytesIxRead2
import Derived.Test.YtfjilngofdahgaaCIndexBytesIxSave

namespace Go.Proofs.Ytfjilngofdahgaa
open Go.RowKit
set_option maxHeartbeats 4000000
set_option maxRecDepth 100000
set_option linter.unusedVariables false

def loadL (bs : List UInt8) : Option (Tb × List Lv) × Int :=
  if (openL bs).2 ≠ 0 then (none, (openL bs).2) else match readX (openL bs).1 with
    | none => (none, 6)
    | some s => if saveX s = (bs, 0) then (some s, 0) else (none, 6)
theorem load_shut {bs : List UInt8} (h : (openL bs).2 ≠ 0) : loadL bs = (none, (openL bs).2) := by unfold loadL; rw [if_pos h]
theorem load_none {bs : List UInt8} (h : (openL bs).2 = 0) (h2 : readX (openL bs).1 = none) : loadL bs = (none, 6) := by unfold loadL; rw [if_neg (by rw [h]; simp), h2]
theorem load_some {bs : List UInt8} {s : Tb × List Lv} (h : (openL bs).2 = 0) (h2 : readX (openL bs).1 = some s) (h3 : saveX s = (bs, 0)) : loadL bs = (some s, 0) := by unfold loadL; rw [if_neg (by rw [h]; simp), h2]; dsimp only; rw [if_pos h3]
theorem load_not {bs : List UInt8} {s : Tb × List Lv} (h : (openL bs).2 = 0) (h2 : readX (openL bs).1 = some s) (h3 : saveX s ≠ (bs, 0)) : loadL bs = (none, 6) := by unfold loadL; rw [if_neg (by rw [h]; simp), h2]; dsimp only; rw [if_neg h3]

theorem loadX_any (b : ByteArray) (room most : Int) (w : World) (hb : b.size ≤ 20000) :
    Calls Try.prog 30 #[.string b, .int .i64 room, .int .i64 most] w fun e w' => ∃ p, e = .returned (.tuple #[.pointer p, .int .i64 (loadL b.data.toList).2]) ∧ Below w.heap.size w w' ∧ ((loadL b.data.toList).1 = none → p = none) ∧ ∀ s, (loadL b.data.toList).1 = some s → wX s ≤ 2000 ∧ ∃ g S, p = some ⟨g, 0, none⟩ ∧ IxIs w' S g (max room 1) (max most 2) s ∧ ∀ q, S q → w.heap.size ≤ q := by
  obtain ⟨ro, hrom⟩ : ∃ ro, max room 1 = ro := ⟨_, rfl⟩
  obtain ⟨mo, hmom⟩ : ∃ mo, max most 2 = mo := ⟨_, rfl⟩
  rw [hrom, hmom]
  have HRo := Lib.hid hrom; have HMo := Lib.hid hmom
  clear hrom hmom
  have hop := open_any b w (by omega)
  have hbl := size_list b
  obtain ⟨bs, hbs⟩ : ∃ bs, b.data.toList = bs := ⟨_, rfl⟩
  have hpr := openL_parts bs
  rw [hbs] at hop hbl ⊢
  by_cases h0 : (openL bs).2 = 0
  · obtain ⟨r, hr, hrl⟩ : ∃ r, openL bs = (r, 0) ∧ r.length ≤ bs.length := by
      rcases hpr with h | h | h
      · rw [h] at h0; cases h0
      · rw [h] at h0; cases h0
      · exact h
    rw [hr] at hop
    dsimp only at hop
    obtain ⟨sr, hsr⟩ : ∃ sr : ByteArray, (⟨r.toArray⟩ : ByteArray) = sr := ⟨_, rfl⟩
    have hsrl : sr.data.toList = r := by rw [← hsr]
    have hsrs : sr.size ≤ 1000000000 := by rw [size_list, hsrl]; omega
    rw [hsr] at hop
    have hro : (openL bs).1 = r := by rw [hr]
    have Hop := Lib.hid hop; have H0 := Lib.hid h0; have Hro := Lib.hid hro; have Hbs := Lib.hid hbs; have Hsrl := Lib.hid hsrl; have Hbl := Lib.hid hbl
    clear hop h0 hr hsr hpr hro hbs hsrl hbl
    go_enter Try.func30, Try.ntmps30
    go_wp2_with fail
    refine Hop.out.mono ?_
    rintro e w1 ⟨rfl, hb1⟩
    have B1 := Lib.hid hb1
    clear hb1
    go_wp2_with fail
    refine (newX_any _ _ _).mono ?_
    rintro e w2 ⟨g, S, rfl, q1, hi2, hb2, hs2⟩
    rw [HRo.out, HMo.out] at hi2
    have B2 := Lib.hid (B1.out.trans (hb2.mono B1.out.size)); have I2 := Lib.hid hi2
    have S2 : Hid (∀ q, S q → w.heap.size ≤ q ∧ q < w2.heap.size) := Lib.hid (fun q hq => ⟨Nat.le_trans B1.out.size (hs2 q hq), by obtain ⟨T, r, v, vs, hx⟩ := hi2; exact hx.lt q hq⟩)
    clear hi2 hb2 hs2 q1
    go_wp2_with fail
    refine (newIn_any sr _ hsrs).mono ?_
    rintro e w3 ⟨gi, rfl, hin, hb3⟩
    rw [Hsrl.out] at hin
    have B3 := Lib.hid (B2.out.trans (hb3.mono B2.out.size)); have I3 := Lib.hid (I2.out.below hb3)
    have hgi := hin.1
    have hrd := readX_any S g ro mo gi _ r w3 I3.out hin (fun h => by have := (S2.out gi h).2; omega) (by have := Hbl.out; omega)
    have Hrd := Lib.hid hrd
    clear hin hb3 hrd
    go_wp2_with fail
    refine Hrd.out.mono ?_
    rintro e w4 ⟨rfl, hc4, hs4⟩
    have hsz2 := B2.out.size
    have B4 : Hid (Below w.heap.size w w4) := Lib.hid (B3.out.trans (hc4.below (fun k hk => by
      rcases hk with hk | hk
      · exact (S2.out k hk).1
      · omega) B3.out.size))
    have hsz3 := B3.out.size
    cases hrx : readX r with
    | none =>
      have hl : loadL bs = (none, 6) := load_none H0.out (by rw [Hro.out]; exact hrx)
      have Hl := Lib.hid hl
      clear hl hc4 hs4 hrx
      go_wp2_with fail
      go_ret2
      rw [Hl.out]
      exact ⟨_, rfl, B4.out, fun _ => rfl, fun s h => (by cases h)⟩
    | some s =>
      obtain ⟨hws, S', hi4, hs4'⟩ := hs4 s hrx
      have hsv := saveX_any S' g ro mo s w4 hi4 hws
      have I4 := Lib.hid hi4
      have S4 : Hid (∀ q, S' q → w.heap.size ≤ q) := Lib.hid (fun q hq => by
        rcases hs4' q hq with h | h
        · exact (S2.out q h).1
        · omega)
      have Hrx := Lib.hid hrx
      obtain ⟨sv, hsvn⟩ : ∃ sv : ByteArray, (⟨(saveX s).1.toArray⟩ : ByteArray) = sv := ⟨_, rfl⟩
      obtain ⟨E, hE⟩ : ∃ E, (saveX s).2 = E := ⟨_, rfl⟩
      have hsvl : sv.data.toList = (saveX s).1 := by rw [← hsvn]
      rw [hsvn, hE] at hsv
      have Hsv := Lib.hid hsv
      have hiff : saveX s = (bs, 0) ↔ E = 0 ∧ sv = b := by
        constructor
        · intro h
          refine ⟨by rw [← hE, h], ?_⟩
          rw [← hsvn, h]
          dsimp only
          rw [← Hbs.out]
        · rintro ⟨h1, h2⟩
          refine Prod.ext ?_ (hE.trans h1)
          rw [← hsvl, h2, Hbs.out]
      have Hiff := Lib.hid hiff
      clear hsv hi4 hs4 hs4' hrx hsvn hE hsvl hiff hc4
      by_cases hE0 : E = 0
      · subst hE0
        by_cases hq : sv = b
        · have hl : loadL bs = (some s, 0) := load_some H0.out (by rw [Hro.out]; exact Hrx.out) (Hiff.out.2 ⟨rfl, hq⟩)
          have Hl := Lib.hid hl
          subst hq
          have dq : (sv.toList == sv.toList) = true := beq_self_eq_true _
          clear hl
          go_wp2_with fail
          refine Hsv.out.mono ?_
          rintro e w5 ⟨rfl, hb5⟩
          have B5 := Lib.hid (B4.out.trans (hb5.mono B4.out.size)); have I5 := Lib.hid (I4.out.below hb5)
          clear hb5
          go_wp2_with fail
          go_ret2
          rw [Hl.out]
          exact ⟨_, rfl, B5.out, fun h => (by cases h), fun s' h => (by injection h with h; subst h; exact ⟨hws, g, S', rfl, I5.out, S4.out⟩)⟩
        · have hl : loadL bs = (none, 6) := load_not H0.out (by rw [Hro.out]; exact Hrx.out) (fun h => hq (Hiff.out.1 h).2)
          have Hl := Lib.hid hl
          have dq : (sv.toList == b.toList) = false := by
            rw [beq_eq_false_iff_ne]
            intro h
            rw [ByteArray.toList_eq, ByteArray.toList_eq] at h
            exact hq (ByteArray.ext (Array.toList_inj.1 h))
          clear hl hq
          go_wp2_with fail
          refine Hsv.out.mono ?_
          rintro e w5 ⟨rfl, hb5⟩
          have B5 := Lib.hid (B4.out.trans (hb5.mono B4.out.size))
          clear hb5
          go_wp2_with fail
          go_ret2
          rw [Hl.out]
          exact ⟨_, rfl, B5.out, fun _ => rfl, fun s h => (by cases h)⟩
      · have hl : loadL bs = (none, 6) := load_not H0.out (by rw [Hro.out]; exact Hrx.out) (fun h => hE0 (Hiff.out.1 h).1)
        have Hl := Lib.hid hl
        have dE : (E != 0) = true := by simpa using hE0
        clear hl hE0
        go_wp2_with fail
        refine Hsv.out.mono ?_
        rintro e w5 ⟨rfl, hb5⟩
        have B5 := Lib.hid (B4.out.trans (hb5.mono B4.out.size))
        clear hb5
        go_wp2_with fail
        go_ret2
        rw [Hl.out]
        exact ⟨_, rfl, B5.out, fun _ => rfl, fun s h => (by cases h)⟩
  · have hl := load_shut h0
    obtain ⟨E, hE⟩ : ∃ E, (openL bs).2 = E := ⟨_, rfl⟩
    rw [hE] at hop hl h0
    have dE : (E != 0) = true := by simpa using h0
    have Hop := Lib.hid hop; have Hl := Lib.hid hl
    clear hop hl hpr hE h0 hbs
    go_enter Try.func30, Try.ntmps30
    go_wp2_with fail
    refine Hop.out.mono ?_
    rintro e w1 ⟨rfl, hb1⟩
    have B1 := Lib.hid hb1
    clear hb1
    go_wp2_with fail
    go_ret2
    rw [Hl.out]
    exact ⟨_, rfl, B1.out, fun _ => rfl, fun s h => (by cases h)⟩
end Go.Proofs.Ytfjilngofdahgaa
