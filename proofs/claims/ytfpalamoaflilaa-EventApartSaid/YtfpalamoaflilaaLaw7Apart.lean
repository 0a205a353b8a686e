/- chapter 7: EventApart, walked (printed by mkapart7.py). -/
import Derived.Test.YtfpalamoaflilaaEvEqual
import Derived.Test.YtfpalamoaflilaaEvAlive
import Derived.Deep.RegionHeld3
namespace Go.Proofs.Ytfpalamoaflilaa
open Go.RowKit
set_option maxHeartbeats 8000000
set_option maxRecDepth 100000
set_option linter.unusedVariables false
attribute [local go_sem] run_store_flt

theorem small_put {c : Cmd} (h : smallC c.s c.es = true) : c.es.length ≤ 12 := (smallC_few h).1
theorem list_beq (l m : List UInt8) : (l == m) = decide (l = m) := by rw [Bool.eq_iff_iff, beq_iff_eq, decide_eq_true_eq]

theorem eventApart_any (k t : Int) (s : ByteArray) (x : Int) (A : Option Addr) (n c : Nat) (es : List Ev) (p q r : Int) (k' t' : Int) (s' : ByteArray) (x' : Int) (A' : Option Addr) (n' c' : Nat) (es' : List Ev) (p' q' r' : Int) (w : World)
    (ha : SlR w w.heap.size 4 A n (evVs es)) (hb : SlR w w.heap.size 4 A' n' (evVs es')) (hn : n ≤ 9223372036854775807) (hn' : n' ≤ 9223372036854775807) (hfa : (⟨k, t, s, x, es, p, q, r⟩ : Cmd).fits) (hfb : (⟨k', t', s', x', es', p', q', r'⟩ : Cmd).fits) :
    Calls Try.prog 8 #[.agg #[.int .i64 k, .int .i64 t, .string s, .int .i64 x, .slice A n c, .int .i64 p, .int .i64 q, .int .i64 r], .agg #[.int .i64 k', .int .i64 t', .string s', .int .i64 x', .slice A' n' c', .int .i64 p', .int .i64 q', .int .i64 r']] w fun e w' => e = .returned (.bool true) ∧ Below w.heap.size w w' := by
  obtain ⟨V, hV⟩ : ∃ V, (w.alloc (.cells #[.int .i64 k, .int .i64 t, .string s, .int .i64 x, .slice A n c, .int .i64 p, .int .i64 q, .int .i64 r] 26)).alloc (.cells #[.int .i64 k', .int .i64 t', .string s', .int .i64 x', .slice A' n' c', .int .i64 p', .int .i64 q', .int .i64 r'] 26) = V := ⟨_, rfl⟩
  have hA : BlkIs V w.heap.size 26 #[.int .i64 k, .int .i64 t, .string s, .int .i64 x, .slice A n c, .int .i64 p, .int .i64 q, .int .i64 r] := by rw [← hV]; exact (BlkIs.new _ _ _).alloc _
  have hB : BlkIs V (w.heap.size + 1) 26 #[.int .i64 k', .int .i64 t', .string s', .int .i64 x', .slice A' n' c', .int .i64 p', .int .i64 q', .int .i64 r'] := by
    rw [← hV]
    have := BlkIs.new (w.alloc (.cells #[.int .i64 k, .int .i64 t, .string s, .int .i64 x, .slice A n c, .int .i64 p, .int .i64 q, .int .i64 r] 26)) 26 #[.int .i64 k', .int .i64 t', .string s', .int .i64 x', .slice A' n' c', .int .i64 p', .int .i64 q', .int .i64 r']
    simpa using this
  have hb0 : Below w.heap.size w V := by rw [← hV]; exact ((Below.refl _ _).alloc (Nat.le_refl _) _).alloc (by simp) _
  have ha0 := ha.below hb0
  have hb1 := hb.below hb0
  have hS0 : ∀ wx, Below V.heap.size V wx → wx.cell? ⟨w.heap.size, 0, none⟩ = some (.int .i64 k) ∧ wx.cell? ⟨w.heap.size, 1, none⟩ = some (.int .i64 t) ∧ wx.cell? ⟨w.heap.size, 2, none⟩ = some (.string s) ∧ wx.cell? ⟨w.heap.size, 3, none⟩ = some (.int .i64 x) ∧ wx.cell? ⟨w.heap.size, 4, none⟩ = some (.slice A n c) ∧ wx.cell? ⟨w.heap.size, 5, none⟩ = some (.int .i64 p) ∧ wx.cell? ⟨w.heap.size, 6, none⟩ = some (.int .i64 q) ∧ wx.cell? ⟨w.heap.size, 7, none⟩ = some (.int .i64 r) ∧ wx.cell? ⟨w.heap.size + 1, 0, none⟩ = some (.int .i64 k') ∧ wx.cell? ⟨w.heap.size + 1, 1, none⟩ = some (.int .i64 t') ∧ wx.cell? ⟨w.heap.size + 1, 2, none⟩ = some (.string s') ∧ wx.cell? ⟨w.heap.size + 1, 3, none⟩ = some (.int .i64 x') ∧ wx.cell? ⟨w.heap.size + 1, 4, none⟩ = some (.slice A' n' c') ∧ wx.cell? ⟨w.heap.size + 1, 5, none⟩ = some (.int .i64 p') ∧ wx.cell? ⟨w.heap.size + 1, 6, none⟩ = some (.int .i64 q') ∧ wx.cell? ⟨w.heap.size + 1, 7, none⟩ = some (.int .i64 r') := fun wx h => by
    have f1 := (hA.below h hA.lt).cell; have f2 := (hB.below h hB.lt).cell
    exact ⟨f1 0, f1 1, f1 2, f1 3, f1 4, f1 5, f1 6, f1 7, f2 0, f2 1, f2 2, f2 3, f2 4, f2 5, f2 6, f2 7⟩
  have hsmA := fun wx (h : Below V.heap.size V wx) => small_any k t s x A n c w.heap.size es p q r wx (ha0.below (h.mono hb0.size)) (Nat.le_trans hb0.size h.size) hn hfa.es hfa.s1
  have hsmB := fun wx (h : Below V.heap.size V wx) => small_any k' t' s' x' A' n' c' w.heap.size es' p' q' r' wx (hb1.below (h.mono hb0.size)) (Nat.le_trans hb0.size h.size) hn' hfb.es hfb.s1
  have hla : es.length = n := by have := ha.len; rw [evVs_length] at this; omega
  have hlb : es'.length = n' := by have := hb.len; rw [evVs_length] at this; omega
  have hpA := fun wx (h : Below V.heap.size V wx) (h1 : n ≤ 1000000000) => put_any k t s x A n c w.heap.size es p q r wx (ha0.below (h.mono hb0.size)) (Nat.le_trans hb0.size h.size) h1 hfa.es hfa.s1
  have hpB := fun wx (h : Below V.heap.size V wx) (h1 : n' ≤ 1000000000) => put_any k' t' s' x' A' n' c' w.heap.size es' p' q' r' wx (hb1.below (h.mono hb0.size)) (Nat.le_trans hb0.size h.size) h1 hfb.es hfb.s1
  have hsab := fun wx (h : Below V.heap.size V wx) (h1 : n ≤ 1000000000) (h2 : n' ≤ 1000000000) => same_any k t s x A n c es p q r k' t' s' x' A' n' c' es' p' q' r' w.heap.size wx (ha0.below (h.mono hb0.size)) (hb1.below (h.mono hb0.size)) (Nat.le_trans hb0.size h.size) h1 h2
  have hsba := fun wx (h : Below V.heap.size V wx) (h1 : n ≤ 1000000000) (h2 : n' ≤ 1000000000) => same_any k' t' s' x' A' n' c' es' p' q' r' k t s x A n c es p q r w.heap.size wx (hb1.below (h.mono hb0.size)) (ha0.below (h.mono hb0.size)) (Nat.le_trans hb0.size h.size) h2 h1
  have hsaa := fun wx (h : Below V.heap.size V wx) (h1 : n ≤ 1000000000) => same_any k t s x A n c es p q r k t s x A n c es p q r w.heap.size wx (ha0.below (h.mono hb0.size)) (ha0.below (h.mono hb0.size)) (Nat.le_trans hb0.size h.size) h1 h1
  rw [sameC_refl] at hsaa
  rw [sameC_symm (⟨k', t', s', x', es', p', q', r'⟩ : Cmd) (⟨k, t, s, x, es, p, q, r⟩ : Cmd)] at hsba
  have hsm1 : smallC s es = true → n ≤ 12 := fun h => by have := small_put (c := (⟨k, t, s, x, es, p, q, r⟩ : Cmd)) h; dsimp only at this; omega
  have hsm2 : smallC s' es' = true → n' ≤ 12 := fun h => by have := small_put (c := (⟨k', t', s', x', es', p', q', r'⟩ : Cmd)) h; dsimp only at this; omega
  have hps := putC_same (⟨k, t, s, x, es, p, q, r⟩ : Cmd) (⟨k', t', s', x', es', p', q', r'⟩ : Cmd)
  have HSm1 := Lib.hid hsm1; have HSm2 := Lib.hid hsm2; have HPs := Lib.hid hps; have Hfa := Lib.hid hfa; have Hfb := Lib.hid hfb
  have HB := Below.refl V.heap.size V
  obtain ⟨c00, c01, c02, c03, c04, c05, c06, c07, c08, c09, c10, c11, c12, c13, c14, c15⟩ := hS0 _ HB
  have HS := Lib.hid hS0; have Hb0 := Lib.hid hb0
  clear hA hB ha hb ha0 hb1 hS0 hb0 hla hlb hsm1 hsm2 hps hfa hfb
  generalize smallC s es = sa at hsmA HSm1
  generalize smallC s' es' = sb at hsmB HSm2
  generalize hpa : putC (⟨k, t, s, x, es, p, q, r⟩ : Cmd) = pa at hpA HPs
  generalize hpb : putC (⟨k', t', s', x', es', p', q', r'⟩ : Cmd) = pb at hpB HPs
  generalize hsc : sameC (⟨k, t, s, x, es, p, q, r⟩ : Cmd) (⟨k', t', s', x', es', p', q', r'⟩ : Cmd) = sc at hsab hsba HPs
  have HsmA := Lib.hid hsmA; have HsmB := Lib.hid hsmB; have HpA := Lib.hid hpA; have HpB := Lib.hid hpB; have Hsab := Lib.hid hsab; have Hsba := Lib.hid hsba; have Hsaa := Lib.hid hsaa
  clear hsmA hsmB hpA hpB hsab hsba hsaa hpa hpb hsc
  cases sa with
  | false =>
    go_enter Try.func8, Try.ntmps8
    go_wp2_with fail
    (try rw [hV])
    refine (HsmA.out _ HB).mono ?_
    rintro e wx ⟨rfl, hb⟩
    replace HB := HB.trans (hb.mono HB.size)
    clear hb c00 c01 c02 c03 c04 c05 c06 c07 c08 c09 c10 c11 c12 c13 c14 c15
    obtain ⟨c00, c01, c02, c03, c04, c05, c06, c07, c08, c09, c10, c11, c12, c13, c14, c15⟩ := HS.out _ HB
    go_wp2_with fail
    (try rw [hV])
    refine (alive7_any _).mono ?_
    rintro e wx ⟨rfl, hb⟩
    replace HB := HB.trans (hb.mono HB.size)
    clear hb c00 c01 c02 c03 c04 c05 c06 c07 c08 c09 c10 c11 c12 c13 c14 c15
    obtain ⟨c00, c01, c02, c03, c04, c05, c06, c07, c08, c09, c10, c11, c12, c13, c14, c15⟩ := HS.out _ HB
    go_wp2_with fail
    go_ret
    exact ⟨rfl, Hb0.out.trans (HB.mono Hb0.out.size)⟩
  | true =>
    have hn12 := HSm1.out rfl
    cases sb with
    | false =>
      go_enter Try.func8, Try.ntmps8
      go_wp2_with fail
      (try rw [hV])
      refine (HsmA.out _ HB).mono ?_
      rintro e wx ⟨rfl, hb⟩
      replace HB := HB.trans (hb.mono HB.size)
      clear hb c00 c01 c02 c03 c04 c05 c06 c07 c08 c09 c10 c11 c12 c13 c14 c15
      obtain ⟨c00, c01, c02, c03, c04, c05, c06, c07, c08, c09, c10, c11, c12, c13, c14, c15⟩ := HS.out _ HB
      go_wp2_with fail
      (try rw [hV])
      refine (HsmB.out _ HB).mono ?_
      rintro e wx ⟨rfl, hb⟩
      replace HB := HB.trans (hb.mono HB.size)
      clear hb c00 c01 c02 c03 c04 c05 c06 c07 c08 c09 c10 c11 c12 c13 c14 c15
      obtain ⟨c00, c01, c02, c03, c04, c05, c06, c07, c08, c09, c10, c11, c12, c13, c14, c15⟩ := HS.out _ HB
      go_wp2_with fail
      (try rw [hV])
      refine (alive7_any _).mono ?_
      rintro e wx ⟨rfl, hb⟩
      replace HB := HB.trans (hb.mono HB.size)
      clear hb c00 c01 c02 c03 c04 c05 c06 c07 c08 c09 c10 c11 c12 c13 c14 c15
      obtain ⟨c00, c01, c02, c03, c04, c05, c06, c07, c08, c09, c10, c11, c12, c13, c14, c15⟩ := HS.out _ HB
      go_wp2_with fail
      go_ret
      exact ⟨rfl, Hb0.out.trans (HB.mono Hb0.out.size)⟩
    | true =>
      have hn12' := HSm2.out rfl
      obtain ⟨pa1, pa2⟩ := pa
      obtain ⟨pb1, pb2⟩ := pb
      by_cases hea : pa2 = 0
      · by_cases heb : pb2 = 0
        · subst hea heb
          have hlb : (pa1 == pb1) = sc := (list_beq _ _).trans (HPs.out rfl rfl Hfa.out Hfb.out)
          generalize hsc2 : sc = y at Hsab Hsba hlb
          clear hsc2 HPs
          cases y with
          | false =>
            go_enter Try.func8, Try.ntmps8
            go_wp2_with fail
            (try rw [hV])
            refine (HsmA.out _ HB).mono ?_
            rintro e wx ⟨rfl, hb⟩
            replace HB := HB.trans (hb.mono HB.size)
            clear hb c00 c01 c02 c03 c04 c05 c06 c07 c08 c09 c10 c11 c12 c13 c14 c15
            obtain ⟨c00, c01, c02, c03, c04, c05, c06, c07, c08, c09, c10, c11, c12, c13, c14, c15⟩ := HS.out _ HB
            go_wp2_with fail
            (try rw [hV])
            refine (HsmB.out _ HB).mono ?_
            rintro e wx ⟨rfl, hb⟩
            replace HB := HB.trans (hb.mono HB.size)
            clear hb c00 c01 c02 c03 c04 c05 c06 c07 c08 c09 c10 c11 c12 c13 c14 c15
            obtain ⟨c00, c01, c02, c03, c04, c05, c06, c07, c08, c09, c10, c11, c12, c13, c14, c15⟩ := HS.out _ HB
            go_wp2_with fail
            (try rw [hV])
            refine (HpA.out _ HB (by omega)).mono ?_
            rintro e wx ⟨rfl, hb⟩
            replace HB := HB.trans (hb.mono HB.size)
            clear hb c00 c01 c02 c03 c04 c05 c06 c07 c08 c09 c10 c11 c12 c13 c14 c15
            obtain ⟨c00, c01, c02, c03, c04, c05, c06, c07, c08, c09, c10, c11, c12, c13, c14, c15⟩ := HS.out _ HB
            go_wp2_with fail
            (try rw [hV])
            refine (HpB.out _ HB (by omega)).mono ?_
            rintro e wx ⟨rfl, hb⟩
            replace HB := HB.trans (hb.mono HB.size)
            clear hb c00 c01 c02 c03 c04 c05 c06 c07 c08 c09 c10 c11 c12 c13 c14 c15
            obtain ⟨c00, c01, c02, c03, c04, c05, c06, c07, c08, c09, c10, c11, c12, c13, c14, c15⟩ := HS.out _ HB
            go_wp2_with fail
            have hS := HS.out _ HB
            go_region_held3 (fun wx => wx.cell? ⟨w.heap.size, 0, none⟩ = some (.int .i64 k) ∧ wx.cell? ⟨w.heap.size, 1, none⟩ = some (.int .i64 t) ∧ wx.cell? ⟨w.heap.size, 2, none⟩ = some (.string s) ∧ wx.cell? ⟨w.heap.size, 3, none⟩ = some (.int .i64 x) ∧ wx.cell? ⟨w.heap.size, 4, none⟩ = some (.slice A n c) ∧ wx.cell? ⟨w.heap.size, 5, none⟩ = some (.int .i64 p) ∧ wx.cell? ⟨w.heap.size, 6, none⟩ = some (.int .i64 q) ∧ wx.cell? ⟨w.heap.size, 7, none⟩ = some (.int .i64 r) ∧ wx.cell? ⟨w.heap.size + 1, 0, none⟩ = some (.int .i64 k') ∧ wx.cell? ⟨w.heap.size + 1, 1, none⟩ = some (.int .i64 t') ∧ wx.cell? ⟨w.heap.size + 1, 2, none⟩ = some (.string s') ∧ wx.cell? ⟨w.heap.size + 1, 3, none⟩ = some (.int .i64 x') ∧ wx.cell? ⟨w.heap.size + 1, 4, none⟩ = some (.slice A' n' c') ∧ wx.cell? ⟨w.heap.size + 1, 5, none⟩ = some (.int .i64 p') ∧ wx.cell? ⟨w.heap.size + 1, 6, none⟩ = some (.int .i64 q') ∧ wx.cell? ⟨w.heap.size + 1, 7, none⟩ = some (.int .i64 r')) (first | exact hS | go_keep) ((first
              | (go_at_call 11; refine (alive7_any _).mono ?_; rintro e wx ⟨rfl, hb⟩; have HB := HB.trans ((by first | exact hb | exact below_undrew hb : Below _ _ _).mono HB.size); have hS := HS.out _ HB)
              | (go_at_call 31; (with_reducible refine (Hsab.out _ (by first | exact HB | exact below_drewN HB 1) (by omega) (by omega)).mono ?_); rintro e wx ⟨rfl, hb⟩; have HB := HB.trans (hb.mono HB.size); have hS := HS.out _ HB)
              | (go_at_call 31; (with_reducible refine (Hsba.out _ (by first | exact HB | exact below_drewN HB 1) (by omega) (by omega)).mono ?_); rintro e wx ⟨rfl, hb⟩; have HB := HB.trans (hb.mono HB.size); have hS := HS.out _ HB)
              | (go_at_call 31; (with_reducible refine (Hsaa.out _ (by first | exact HB | exact below_drewN HB 1) (by omega)).mono ?_); rintro e wx ⟨rfl, hb⟩; have HB := HB.trans (hb.mono HB.size); have hS := HS.out _ HB)
              ))
            all_goals
              go_wp2_with fail
              go_ret
              exact ⟨rfl, Hb0.out.trans (HB.mono Hb0.out.size)⟩
          | true =>
            go_enter Try.func8, Try.ntmps8
            go_wp2_with fail
            (try rw [hV])
            refine (HsmA.out _ HB).mono ?_
            rintro e wx ⟨rfl, hb⟩
            replace HB := HB.trans (hb.mono HB.size)
            clear hb c00 c01 c02 c03 c04 c05 c06 c07 c08 c09 c10 c11 c12 c13 c14 c15
            obtain ⟨c00, c01, c02, c03, c04, c05, c06, c07, c08, c09, c10, c11, c12, c13, c14, c15⟩ := HS.out _ HB
            go_wp2_with fail
            (try rw [hV])
            refine (HsmB.out _ HB).mono ?_
            rintro e wx ⟨rfl, hb⟩
            replace HB := HB.trans (hb.mono HB.size)
            clear hb c00 c01 c02 c03 c04 c05 c06 c07 c08 c09 c10 c11 c12 c13 c14 c15
            obtain ⟨c00, c01, c02, c03, c04, c05, c06, c07, c08, c09, c10, c11, c12, c13, c14, c15⟩ := HS.out _ HB
            go_wp2_with fail
            (try rw [hV])
            refine (HpA.out _ HB (by omega)).mono ?_
            rintro e wx ⟨rfl, hb⟩
            replace HB := HB.trans (hb.mono HB.size)
            clear hb c00 c01 c02 c03 c04 c05 c06 c07 c08 c09 c10 c11 c12 c13 c14 c15
            obtain ⟨c00, c01, c02, c03, c04, c05, c06, c07, c08, c09, c10, c11, c12, c13, c14, c15⟩ := HS.out _ HB
            go_wp2_with fail
            (try rw [hV])
            refine (HpB.out _ HB (by omega)).mono ?_
            rintro e wx ⟨rfl, hb⟩
            replace HB := HB.trans (hb.mono HB.size)
            clear hb c00 c01 c02 c03 c04 c05 c06 c07 c08 c09 c10 c11 c12 c13 c14 c15
            obtain ⟨c00, c01, c02, c03, c04, c05, c06, c07, c08, c09, c10, c11, c12, c13, c14, c15⟩ := HS.out _ HB
            go_wp2_with fail
            have hS := HS.out _ HB
            go_region_held3 (fun wx => wx.cell? ⟨w.heap.size, 0, none⟩ = some (.int .i64 k) ∧ wx.cell? ⟨w.heap.size, 1, none⟩ = some (.int .i64 t) ∧ wx.cell? ⟨w.heap.size, 2, none⟩ = some (.string s) ∧ wx.cell? ⟨w.heap.size, 3, none⟩ = some (.int .i64 x) ∧ wx.cell? ⟨w.heap.size, 4, none⟩ = some (.slice A n c) ∧ wx.cell? ⟨w.heap.size, 5, none⟩ = some (.int .i64 p) ∧ wx.cell? ⟨w.heap.size, 6, none⟩ = some (.int .i64 q) ∧ wx.cell? ⟨w.heap.size, 7, none⟩ = some (.int .i64 r) ∧ wx.cell? ⟨w.heap.size + 1, 0, none⟩ = some (.int .i64 k') ∧ wx.cell? ⟨w.heap.size + 1, 1, none⟩ = some (.int .i64 t') ∧ wx.cell? ⟨w.heap.size + 1, 2, none⟩ = some (.string s') ∧ wx.cell? ⟨w.heap.size + 1, 3, none⟩ = some (.int .i64 x') ∧ wx.cell? ⟨w.heap.size + 1, 4, none⟩ = some (.slice A' n' c') ∧ wx.cell? ⟨w.heap.size + 1, 5, none⟩ = some (.int .i64 p') ∧ wx.cell? ⟨w.heap.size + 1, 6, none⟩ = some (.int .i64 q') ∧ wx.cell? ⟨w.heap.size + 1, 7, none⟩ = some (.int .i64 r')) (first | exact hS | go_keep) ((first
              | (go_at_call 11; refine (alive7_any _).mono ?_; rintro e wx ⟨rfl, hb⟩; have HB := HB.trans ((by first | exact hb | exact below_undrew hb : Below _ _ _).mono HB.size); have hS := HS.out _ HB)
              | (go_at_call 31; (with_reducible refine (Hsab.out _ (by first | exact HB | exact below_drewN HB 1) (by omega) (by omega)).mono ?_); rintro e wx ⟨rfl, hb⟩; have HB := HB.trans (hb.mono HB.size); have hS := HS.out _ HB)
              | (go_at_call 31; (with_reducible refine (Hsba.out _ (by first | exact HB | exact below_drewN HB 1) (by omega) (by omega)).mono ?_); rintro e wx ⟨rfl, hb⟩; have HB := HB.trans (hb.mono HB.size); have hS := HS.out _ HB)
              | (go_at_call 31; (with_reducible refine (Hsaa.out _ (by first | exact HB | exact below_drewN HB 1) (by omega)).mono ?_); rintro e wx ⟨rfl, hb⟩; have HB := HB.trans (hb.mono HB.size); have hS := HS.out _ HB)
              ))
            all_goals
              go_wp2_with fail
              go_ret
              exact ⟨rfl, Hb0.out.trans (HB.mono Hb0.out.size)⟩
        · have heb' : (pb2 != 0) = true := by rw [bne_iff_ne]; exact heb
          subst hea
          go_enter Try.func8, Try.ntmps8
          go_wp2_with fail
          (try rw [hV])
          refine (HsmA.out _ HB).mono ?_
          rintro e wx ⟨rfl, hb⟩
          replace HB := HB.trans (hb.mono HB.size)
          clear hb c00 c01 c02 c03 c04 c05 c06 c07 c08 c09 c10 c11 c12 c13 c14 c15
          obtain ⟨c00, c01, c02, c03, c04, c05, c06, c07, c08, c09, c10, c11, c12, c13, c14, c15⟩ := HS.out _ HB
          go_wp2_with fail
          (try rw [hV])
          refine (HsmB.out _ HB).mono ?_
          rintro e wx ⟨rfl, hb⟩
          replace HB := HB.trans (hb.mono HB.size)
          clear hb c00 c01 c02 c03 c04 c05 c06 c07 c08 c09 c10 c11 c12 c13 c14 c15
          obtain ⟨c00, c01, c02, c03, c04, c05, c06, c07, c08, c09, c10, c11, c12, c13, c14, c15⟩ := HS.out _ HB
          go_wp2_with fail
          (try rw [hV])
          refine (HpA.out _ HB (by omega)).mono ?_
          rintro e wx ⟨rfl, hb⟩
          replace HB := HB.trans (hb.mono HB.size)
          clear hb c00 c01 c02 c03 c04 c05 c06 c07 c08 c09 c10 c11 c12 c13 c14 c15
          obtain ⟨c00, c01, c02, c03, c04, c05, c06, c07, c08, c09, c10, c11, c12, c13, c14, c15⟩ := HS.out _ HB
          go_wp2_with fail
          (try rw [hV])
          refine (HpB.out _ HB (by omega)).mono ?_
          rintro e wx ⟨rfl, hb⟩
          replace HB := HB.trans (hb.mono HB.size)
          clear hb c00 c01 c02 c03 c04 c05 c06 c07 c08 c09 c10 c11 c12 c13 c14 c15
          obtain ⟨c00, c01, c02, c03, c04, c05, c06, c07, c08, c09, c10, c11, c12, c13, c14, c15⟩ := HS.out _ HB
          go_wp2_with fail
          (try rw [hV])
          refine (alive7_any _).mono ?_
          rintro e wx ⟨rfl, hb⟩
          replace HB := HB.trans (hb.mono HB.size)
          clear hb c00 c01 c02 c03 c04 c05 c06 c07 c08 c09 c10 c11 c12 c13 c14 c15
          obtain ⟨c00, c01, c02, c03, c04, c05, c06, c07, c08, c09, c10, c11, c12, c13, c14, c15⟩ := HS.out _ HB
          go_wp2_with fail
          go_ret
          exact ⟨rfl, Hb0.out.trans (HB.mono Hb0.out.size)⟩
      · have hea' : (pa2 != 0) = true := by rw [bne_iff_ne]; exact hea
        go_enter Try.func8, Try.ntmps8
        go_wp2_with fail
        (try rw [hV])
        refine (HsmA.out _ HB).mono ?_
        rintro e wx ⟨rfl, hb⟩
        replace HB := HB.trans (hb.mono HB.size)
        clear hb c00 c01 c02 c03 c04 c05 c06 c07 c08 c09 c10 c11 c12 c13 c14 c15
        obtain ⟨c00, c01, c02, c03, c04, c05, c06, c07, c08, c09, c10, c11, c12, c13, c14, c15⟩ := HS.out _ HB
        go_wp2_with fail
        (try rw [hV])
        refine (HsmB.out _ HB).mono ?_
        rintro e wx ⟨rfl, hb⟩
        replace HB := HB.trans (hb.mono HB.size)
        clear hb c00 c01 c02 c03 c04 c05 c06 c07 c08 c09 c10 c11 c12 c13 c14 c15
        obtain ⟨c00, c01, c02, c03, c04, c05, c06, c07, c08, c09, c10, c11, c12, c13, c14, c15⟩ := HS.out _ HB
        go_wp2_with fail
        (try rw [hV])
        refine (HpA.out _ HB (by omega)).mono ?_
        rintro e wx ⟨rfl, hb⟩
        replace HB := HB.trans (hb.mono HB.size)
        clear hb c00 c01 c02 c03 c04 c05 c06 c07 c08 c09 c10 c11 c12 c13 c14 c15
        obtain ⟨c00, c01, c02, c03, c04, c05, c06, c07, c08, c09, c10, c11, c12, c13, c14, c15⟩ := HS.out _ HB
        go_wp2_with fail
        (try rw [hV])
        refine (HpB.out _ HB (by omega)).mono ?_
        rintro e wx ⟨rfl, hb⟩
        replace HB := HB.trans (hb.mono HB.size)
        clear hb c00 c01 c02 c03 c04 c05 c06 c07 c08 c09 c10 c11 c12 c13 c14 c15
        obtain ⟨c00, c01, c02, c03, c04, c05, c06, c07, c08, c09, c10, c11, c12, c13, c14, c15⟩ := HS.out _ HB
        go_wp2_with fail
        (try rw [hV])
        refine (alive7_any _).mono ?_
        rintro e wx ⟨rfl, hb⟩
        replace HB := HB.trans (hb.mono HB.size)
        clear hb c00 c01 c02 c03 c04 c05 c06 c07 c08 c09 c10 c11 c12 c13 c14 c15
        obtain ⟨c00, c01, c02, c03, c04, c05, c06, c07, c08, c09, c10, c11, c12, c13, c14, c15⟩ := HS.out _ HB
        go_wp2_with fail
        go_ret
        exact ⟨rfl, Hb0.out.trans (HB.mono Hb0.out.size)⟩
end Go.Proofs.Ytfpalamoaflilaa
