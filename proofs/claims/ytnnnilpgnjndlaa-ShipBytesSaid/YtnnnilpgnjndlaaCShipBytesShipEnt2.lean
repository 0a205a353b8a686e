/- chapter 22: the document's PutEntry. -/
import Derived.Test.YtnnnilpgnjndlaaCShipBytesShipEnt

namespace Go.Proofs.Ytnnnilpgnjndlaa
open Go.RowKit
set_option maxHeartbeats 4000000
set_option maxRecDepth 100000
set_option linter.unusedVariables false
attribute [local go_sem] run_store_flt

theorem refPutEntry_any (n k t : Int) (s : ByteArray) (x : Int) (A : Option Addr) (m cap B : Nat) (es : List Ev) (m0 m1 m2 : Int) (w : World) (hr : SlR w B 4 A m (evVs es)) (hB : B ≤ w.heap.size) (hm : m ≤ 1000000000) (hf : ∀ e ∈ es, e.fits) (hs : s.size ≤ 9223372036854775807) :
    Calls Try.prog 11 #[.int .i64 n, .agg #[.int .i64 k, .int .i64 t, .string s, .int .i64 x, .slice A m cap, .int .i64 m0, .int .i64 m1, .int .i64 m2]] w fun e w' =>
      e = .returned (.tuple #[.string ⟨(putN n ⟨k, t, s, x, es, m0, m1, m2⟩).1.toArray⟩, .int .i64 (putN n ⟨k, t, s, x, es, m0, m1, m2⟩).2]) ∧ Below w.heap.size w w' := by
  obtain ⟨W, hW⟩ : ∃ W, w.alloc (.cells #[.int .i64 k, .int .i64 t, .string s, .int .i64 x, .slice A m cap, .int .i64 m0, .int .i64 m1, .int .i64 m2] 26) = W := ⟨_, rfl⟩
  have hM : BlkIs W w.heap.size 26 #[.int .i64 k, .int .i64 t, .string s, .int .i64 x, .slice A m cap, .int .i64 m0, .int .i64 m1, .int .i64 m2] := by rw [← hW]; exact BlkIs.new _ _ _
  have hb0 : Below w.heap.size w W := by rw [← hW]; exact (Below.refl _ _).alloc (Nat.le_refl _) _
  have hput := refPut_any k t s x A m cap B es m0 m1 m2 W (hr.below (hb0.mono hB)) (Nat.le_trans hB hb0.size) hm hf hs
  have hperr := fun h => putC_err (c := ⟨k, t, s, x, es, m0, m1, m2⟩) h
  have hpfew : (putC ⟨k, t, s, x, es, m0, m1, m2⟩).2 = 0 → (putC ⟨k, t, s, x, es, m0, m1, m2⟩).1.length ≤ 3000 := fun h => putC_few _ h
  have hcW := hM.cell; have hlW := hM.lt
  have hsm := fun w => smallE_any n w
  unfold putN
  generalize putC ⟨k, t, s, x, es, m0, m1, m2⟩ = p at hput hperr hpfew ⊢
  obtain ⟨pl, pe⟩ := p
  dsimp only at hput hperr hpfew ⊢
  have HM := Lib.hid hM; have HB0 := Lib.hid hb0; have Hput := Lib.hid hput
  clear hM hb0 hput hr
  cases he : smallE n with
  | false =>
    simp only [he] at hsm
    have Hsm := Lib.hid hsm
    clear hsm he
    go_enter Try.func11, Try.ntmps11
    go_wp2_with fail
    (try rw [hW])
    refine (Hsm.out _).mono ?_
    rintro e w1 ⟨rfl, rfl⟩
    go_wp2_with fail
    go_ret2
    exact ⟨rfl, HB0.out⟩
  | true =>
    simp only [he] at hsm
    have hn : 0 ≤ n ∧ n ≤ 2147483647 := by simpa [smallE] using he
    obtain ⟨q, rfl⟩ : ∃ q : Nat, n = q := ⟨n.toNat, by omega⟩
    have hq : q < 4294967296 := by omega
    have hqt : (q : Int).toNat = q := by omega
    have wq : IntKind.u64.wrap (q : Int) = (q : Int) := IntWalk.u64_in _ (by omega)
    have Hsm := Lib.hid hsm
    clear hsm he hn
    by_cases hz : pe = 0
    · subst hz
      have hpl := hpfew rfl
      rw [if_pos rfl, if_pos rfl, hqt]
      dsimp only
      clear hperr hpfew hqt
      have hfin : (⟨(beBytes 4 q).toArray⟩ ++ ⟨pl.toArray⟩ : ByteArray) = ⟨(beBytes 4 q ++ pl).toArray⟩ := by rw [str_append]
      have hb4 : (beBytes 4 q).length = 4 := beBytes_length _ _
      have hbs : (⟨(beBytes 4 q).toArray⟩ : ByteArray).size = 4 := by rw [size_mk, hb4]
      have hps : (⟨pl.toArray⟩ : ByteArray).size ≤ 3000 := by rw [size_mk]; exact hpl
      have Hfin := Lib.hid hfin; have Hb4 := Lib.hid hb4
      clear hfin hb4 hpl
      go_enter Try.func11, Try.ntmps11
      go_wp2_with fail
      (try rw [hW])
      refine (Hsm.out _).mono ?_
      rintro e w1 ⟨rfl, rfl⟩
      go_wp2_with fail
      refine Hput.out.mono ?_
      rintro e w1 ⟨rfl, hb1⟩
      have B1 := Lib.hid (HB0.out.trans (hb1.mono HB0.out.size))
      obtain ⟨wo, hwo⟩ : ∃ wo, w1.alloc (.cells #[.slice none 0 0, .int .i64 0] 68) = wo := ⟨_, rfl⟩
      have hbo : Below w1.heap.size w1 wo := by rw [← hwo]; exact (Below.refl _ _).alloc (Nat.le_refl _) _
      have hO := rout_new w1
      rw [hwo] at hO
      have HO := Lib.hid hO
      clear hb1 hcW hW hO
      go_wp2_with fail
      (try rw [hwo])
      refine (refNum_t w1.heap.size w1.heap.size 4 q [] wo HO.out hbo.size (by simp) (by omega) (by omega)).mono ?_
      rintro e w2 ⟨rfl, ho2, hb2⟩
      have B2 := Lib.hid (B1.out.trans ((hbo.trans hb2.bel).mono B1.out.size))
      obtain ⟨v2, hB2, hbg2, hown2⟩ := ho2
      have hc0 := hB2.cell 0
      simp at hc0
      have hstr := run_str_own (P := Try.prog) w2 59 9 5 Try.underlying59 Try.underlying5 Try.underlying9 w1.heap.size v2 _ hown2
      rw [List.nil_append] at hstr
      clear hb2 hbo hwo hown2 hbg2
      go_wp2_with fail
      all_goals first
        | (exfalso; omega)
        | (go_ret2
           exact ⟨by rw [← Hfin.out]; rfl, B2.out⟩)
    · have hpl := hperr hz
      subst hpl
      rw [if_pos rfl, if_neg hz]
      have dz : (pe != 0) = true := by rw [bne_iff_ne]; exact hz
      clear hperr hpfew hz
      go_enter Try.func11, Try.ntmps11
      go_wp2_with fail
      (try rw [hW])
      refine (Hsm.out _).mono ?_
      rintro e w1 ⟨rfl, rfl⟩
      go_wp2_with fail
      refine Hput.out.mono ?_
      rintro e w1 ⟨rfl, hb1⟩
      have B1 := Lib.hid (HB0.out.trans (hb1.mono HB0.out.size))
      clear hb1
      go_wp2_with fail
      go_ret2
      exact ⟨rfl, B1.out⟩
end Go.Proofs.Ytnnnilpgnjndlaa
