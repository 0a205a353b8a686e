/- chapter 22: entries as bytes: plainly; ship.Put, the document's PutEntry. -/
import Derived.Test.YtnnnilpgnjndlaaCShipBytesRefPut
import Derived.Test.YtnnnilpgnjndlaaCShipBytesEvGet2
import Derived.Test.YtnnnilpgnjndlaaCShipBytesEvBackLaw

namespace Go.Proofs.Ytnnnilpgnjndlaa
open Go.RowKit
set_option maxHeartbeats 4000000
set_option maxRecDepth 100000
set_option linter.unusedVariables false
attribute [local go_sem] run_store_flt

def smallE (n : Int) : Bool := decide (0 ≤ n ∧ n ≤ 2147483647)
def putN (n : Int) (c : Cmd) : List UInt8 × Int := if smallE n = true then (if (putC c).2 = 0 then (beBytes 4 n.toNat ++ (putC c).1, 0) else ([], (putC c).2)) else ([], 1)
def getN (b : List UInt8) : Int × Cmd × Int :=
  if b.length < 4 then (0, .none, 5)
  else if (getC (b.drop 4)).2 ≠ 0 ∨ smallE (beVal (b.take 4) : Nat) = false then (0, .none, 6)
  else ((beVal (b.take 4) : Nat), (getC (b.drop 4)).1, 0)
theorem putC_err {c : Cmd} (h : (putC c).2 ≠ 0) : (putC c).1 = [] := by
  unfold putC at *
  split
  · next h0 => rw [if_pos h0] at h; exact absurd rfl h
  · rfl
theorem getN_put (n : Int) (c : Cmd) (h : (putN n c).2 = 0) (hf : c.fits) : getN (putN n c).1 = (n, c.can, 0) := by
  unfold putN at *
  by_cases hs : smallE n = true
  · rw [if_pos hs] at h ⊢
    by_cases hc : (putC c).2 = 0
    · rw [if_pos hc]
      dsimp only
      have hl : (beBytes 4 n.toNat).length = 4 := beBytes_length _ _
      have hg := getC_put c hc hf
      have hn : 0 ≤ n ∧ n ≤ 2147483647 := by simpa [smallE] using hs
      unfold getN
      rw [if_neg (by rw [List.length_append, hl]; omega), List.drop_left' hl, List.take_left' hl, hg]
      have hv : beVal (beBytes 4 n.toNat) = n.toNat := beVal_beBytes 4 _ (by omega)
      rw [hv, show ((n.toNat : Nat) : Int) = n from by omega, hs]
      simp
    · rw [if_neg hc] at h
      exact absurd h hc
  · rw [if_neg hs] at h
    cases h

theorem smallE_any (t : Int) (w : World) :
    Calls Try.prog 30 #[.int .i64 t] w fun e w' => e = .returned (.bool (smallE t)) ∧ w = w' := by
  unfold smallE
  by_cases h0 : 0 ≤ t
  · by_cases h1 : t ≤ 2147483647
    · rw [decide_eq_true (⟨h0, h1⟩ : 0 ≤ t ∧ t ≤ 2147483647)]
      go_enter Try.func30, Try.ntmps30
      go_wp2_with fail
      go_ret
      exact ⟨by simp_all, rfl⟩
    · rw [decide_eq_false (fun h => h1 h.2 : ¬ (0 ≤ t ∧ t ≤ 2147483647))]
      go_enter Try.func30, Try.ntmps30
      go_wp2_with fail
      go_ret
      exact ⟨by simp_all, rfl⟩
  · rw [decide_eq_false (fun h => h0 h.1 : ¬ (0 ≤ t ∧ t ≤ 2147483647))]
    go_enter Try.func30, Try.ntmps30
    go_wp2_with fail
    go_ret
    exact ⟨by simp_all, rfl⟩

theorem shipPut_any (n k t : Int) (s : ByteArray) (x : Int) (A : Option Addr) (m cap B : Nat) (es : List Ev) (m0 m1 m2 : Int) (w : World) (hr : SlR w B 4 A m (evVs es)) (hB : B ≤ w.heap.size) (hm : m ≤ 1000000000) (hf : ∀ e ∈ es, e.fits) (hs : s.size ≤ 9223372036854775807) :
    Calls Try.prog 10 #[.agg #[.int .i64 n, .int .i64 k, .int .i64 t, .string s, .int .i64 x, .slice A m cap, .int .i64 m0, .int .i64 m1, .int .i64 m2]] w fun e w' =>
      e = .returned (.tuple #[.string ⟨(putN n ⟨k, t, s, x, es, m0, m1, m2⟩).1.toArray⟩, .int .i64 (putN n ⟨k, t, s, x, es, m0, m1, m2⟩).2]) ∧ Below w.heap.size w w' := by
  obtain ⟨W, hW⟩ : ∃ W, w.alloc (.cells #[.int .i64 n, .int .i64 k, .int .i64 t, .string s, .int .i64 x, .slice A m cap, .int .i64 m0, .int .i64 m1, .int .i64 m2] 33) = W := ⟨_, rfl⟩
  have hM : BlkIs W w.heap.size 33 #[.int .i64 n, .int .i64 k, .int .i64 t, .string s, .int .i64 x, .slice A m cap, .int .i64 m0, .int .i64 m1, .int .i64 m2] := by rw [← hW]; exact BlkIs.new _ _ _
  have hb0 : Below w.heap.size w W := by rw [← hW]; exact (Below.refl _ _).alloc (Nat.le_refl _) _
  have hput := put_any k t s x A m cap B es m0 m1 m2 W (hr.below (hb0.mono hB)) (Nat.le_trans hB hb0.size) hm hf hs
  have hperr := fun h => putC_err (c := ⟨k, t, s, x, es, m0, m1, m2⟩) h
  have hpfew : (putC ⟨k, t, s, x, es, m0, m1, m2⟩).2 = 0 → (putC ⟨k, t, s, x, es, m0, m1, m2⟩).1.length ≤ 3000 := fun h => putC_few _ h
  have hcW := hM.cell; have hlW := hM.lt
  unfold putN
  generalize putC ⟨k, t, s, x, es, m0, m1, m2⟩ = p at hput hperr hpfew ⊢
  obtain ⟨pl, pe⟩ := p
  dsimp only at hput hperr hpfew ⊢
  have HM := Lib.hid hM; have HB0 := Lib.hid hb0; have Hput := Lib.hid hput
  clear hM hb0 hput hr
  by_cases h0 : n < 0
  · have e0 : smallE n = false := by unfold smallE; exact decide_eq_false (by omega)
    rw [e0]
    have d0 : decide (n < 0) = true := decide_eq_true h0
    clear h0 e0
    go_enter Try.func10, Try.ntmps10
    go_wp2_with fail
    (try rw [hW])
    go_ret2
    exact ⟨rfl, HB0.out⟩
  · have d0 : decide (n < 0) = false := decide_eq_false h0
    by_cases h1 : 2147483647 < n
    · have e0 : smallE n = false := by unfold smallE; exact decide_eq_false (by omega)
      rw [e0]
      have d1 : decide (2147483647 < n) = true := decide_eq_true h1
      clear h0 h1 e0
      go_enter Try.func10, Try.ntmps10
      go_wp2_with fail
      (try rw [hW])
      go_ret2
      exact ⟨rfl, HB0.out⟩
    · have e0 : smallE n = true := by unfold smallE; exact decide_eq_true (by omega)
      rw [e0]
      have d1 : decide (2147483647 < n) = false := decide_eq_false h1
      obtain ⟨q, rfl⟩ : ∃ q : Nat, n = q := ⟨n.toNat, by omega⟩
      have hq : q < 4294967296 := by omega
      have hqt : (q : Int).toNat = q := by omega
      clear h0 h1 e0
      by_cases hz : pe = 0
      · subst hz
        have hpl := hpfew rfl
        rw [if_pos rfl, if_pos rfl, hqt]
        dsimp only
        clear hperr hpfew hqt
        have hfin : (⟨(beBytes 4 q).toArray⟩ ++ ⟨pl.toArray⟩ : ByteArray) = ⟨(beBytes 4 q ++ pl).toArray⟩ := by rw [str_append]
        have hb4 : (beBytes 4 q).length = 4 := beBytes_length _ _
        have hbs : (⟨(beBytes 4 q).toArray⟩ : ByteArray).size = 4 := by rw [size_mk, hb4]
        have hps : (⟨pl.toArray⟩ : ByteArray).size ≤ 3000 := by rw [size_mk]; exact hpl
        have Hfin := Lib.hid hfin; have Hb4 := Lib.hid hb4
        clear hfin hb4 hpl
        go_enter Try.func10, Try.ntmps10
        go_wp2_with fail
        (try rw [hW])
        refine Hput.out.mono ?_
        rintro e w1 ⟨rfl, hb1⟩
        have M1 := Lib.hid (HM.out.below hb1 HM.out.lt); have B1 := Lib.hid (HB0.out.trans (hb1.mono HB0.out.size))
        obtain ⟨wo, hwo⟩ : ∃ wo, w1.alloc (.cells #[.slice none 0 0, .int .i64 0] 61) = wo := ⟨_, rfl⟩
        have hbo : Below w1.heap.size w1 wo := by rw [← hwo]; exact (Below.refl _ _).alloc (Nat.le_refl _) _
        have HO := Lib.hid (out_newE w1)
        rw [hwo] at HO
        have hm1 := M1.out.lt
        have hco := (M1.out.below hbo hm1).cell 0
        simp at hco
        clear hb1 hcW hW
        go_wp2_with fail
        (try rw [hwo])
        refine (u32_ok w1.heap.size w1.heap.size q [] wo HO.out hbo.size (by simp) hq).mono ?_
        rintro e w2 ⟨rfl, ho2, hb2⟩
        have B2 := Lib.hid (B1.out.trans ((hbo.trans hb2).mono B1.out.size))
        have Ho2 := Lib.hid ho2
        clear ho2 hb2 hbo hwo hco
        go_wp2_with fail
        refine (done_ok w1.heap.size w1.heap.size _ _ Ho2.out).mono ?_
        rintro e w3 ⟨rfl, rfl⟩
        go_wp2_with fail
        all_goals first
          | (exfalso; omega)
          | (exfalso; simp at *; omega)
          | (go_ret2
             exact ⟨by rw [← Hfin.out]; rfl, B2.out⟩)
      · have hpl := hperr hz
        subst hpl
        rw [if_pos rfl, if_neg hz]
        have dz : (pe != 0) = true := by rw [bne_iff_ne]; exact hz
        clear hperr hpfew hz
        go_enter Try.func10, Try.ntmps10
        go_wp2_with fail
        (try rw [hW])
        refine Hput.out.mono ?_
        rintro e w1 ⟨rfl, hb1⟩
        have B1 := Lib.hid (HB0.out.trans (hb1.mono HB0.out.size))
        clear hb1
        go_wp2_with fail
        go_ret2
        exact ⟨rfl, B1.out⟩
end Go.Proofs.Ytnnnilpgnjndlaa
