/- chapter 7: EventParts, walked. -/
import Derived.Test.YtfpalamoaflilaaLaw7Parts1
import Derived.Test.YtfpalamoaflilaaLaw7Parts2
import Derived.Test.YtfpalamoaflilaaLaw7PartsK
import Derived.Deep.RegionHeld3
namespace Go.Proofs.Ytfpalamoaflilaa
open Go.RowKit
set_option maxHeartbeats 8000000
set_option maxRecDepth 100000
set_option linter.unusedVariables false
attribute [local go_sem] run_store_flt

theorem eventParts_any (k t : Int) (s : ByteArray) (x : Int) (A : Option Addr) (n cap : Nat) (es : List Ev) (m0 m1 m2 time : Int) (w : World) (hr : SlR w w.heap.size 4 A n (evVs es)) (hn : n ≤ 9223372036854775807) (hf : (⟨k, t, s, x, es, m0, m1, m2⟩ : Cmd).fits) :
    Calls Try.prog 3 #[.agg #[.int .i64 k, .int .i64 t, .string s, .int .i64 x, .slice A n cap, .int .i64 m0, .int .i64 m1, .int .i64 m2], .int .i64 time] w fun e w' => e = .returned (.bool true) ∧ Below w.heap.size w w' := by
  obtain ⟨W0, hW0⟩ : ∃ W, w.alloc (.cells #[.int .i64 k, .int .i64 t, .string s, .int .i64 x, .slice A n cap, .int .i64 m0, .int .i64 m1, .int .i64 m2] 26) = W := ⟨_, rfl⟩
  have hM : BlkIs W0 w.heap.size 26 #[.int .i64 k, .int .i64 t, .string s, .int .i64 x, .slice A n cap, .int .i64 m0, .int .i64 m1, .int .i64 m2] := by rw [← hW0]; exact BlkIs.new _ _ _
  have hb0 : Below w.heap.size w W0 := by rw [← hW0]; exact (Below.refl _ _).alloc (Nat.le_refl _) _
  have hr0 := hr.below hb0
  have ksm := small_any k t s x A n cap w.heap.size es m0 m1 m2 W0 hr0 hb0.size hn hf.es hf.s1
  have hcM := hM.cell; have hlM := hM.lt
  cases hsm : smallC s es with
  | false =>
    rw [hsm] at ksm
    have Hb0 := Lib.hid hb0; have Ksm := Lib.hid ksm
    clear hM hb0 ksm hr hr0 hf hsm
    go_enter Try.func3, Try.ntmps3
    go_wp2_with fail
    (try rw [hW0])
    refine Ksm.out.mono ?_
    rintro y w1 ⟨rfl, hb1⟩
    have h1 := Hb0.out.trans (hb1.mono Hb0.out.size)
    go_wp2_with fail
    refine (alive7_any _).mono ?_
    rintro y w2 ⟨rfl, hb2⟩
    go_wp2_with fail
    go_ret
    exact ⟨rfl, h1.trans (hb2.mono h1.size)⟩
  | true =>
    by_cases hc0 : checkC ⟨k, t, s, x, es, m0, m1, m2⟩ = 0
    · by_cases h1 : k = 1
      · subst h1
        by_cases t0 : time < 0
        · exact parts_1_lo t s x A n cap es m0 m1 m2 time w hr hn hf hsm hc0 t0
        · by_cases t1 : time ≤ 1099511627776
          · exact parts_1_in t s x A n cap es m0 m1 m2 time w hr hn hf hsm hc0 (by omega) t1
          · exact parts_1_hi t s x A n cap es m0 m1 m2 time w hr hn hf hsm hc0 (by omega) (by omega)
      · by_cases h2 : k = 2
        · subst h2
          by_cases t0 : time < 0
          · exact parts_2_lo t s x A n cap es m0 m1 m2 time w hr hn hf hsm hc0 t0
          · by_cases t1 : time ≤ 1099511627776
            · exact parts_2_in t s x A n cap es m0 m1 m2 time w hr hn hf hsm hc0 (by omega) t1
            · exact parts_2_hi t s x A n cap es m0 m1 m2 time w hr hn hf hsm hc0 (by omega) (by omega)
        · by_cases t0 : time < 0
          · exact parts_K_lo k t s x A n cap es m0 m1 m2 time w hr hn hf hsm hc0 h1 h2 t0
          · by_cases t1 : time ≤ 1099511627776
            · exact parts_K_in k t s x A n cap es m0 m1 m2 time w hr hn hf hsm hc0 h1 h2 (by omega) t1
            · exact parts_K_hi k t s x A n cap es m0 m1 m2 time w hr hn hf hsm hc0 h1 h2 (by omega) (by omega)
    · obtain ⟨hn12, hs100, hev⟩ := smallC_few hsm
      have hl : es.length = n := by have := hr.len; rw [evVs_length] at this; omega
      rw [hsm] at ksm
      have kck := fun (w1 : World) (h : Below W0.heap.size W0 w1) => check_any k t s x A n cap w.heap.size es m0 m1 m2 w1 (hr0.below (h.mono hb0.size)) (Nat.le_trans hb0.size h.size) (by omega) hf.es hf.s1
      obtain ⟨E, hE⟩ : ∃ E, checkC ⟨k, t, s, x, es, m0, m1, m2⟩ = E := ⟨_, rfl⟩
      rw [hE] at kck hc0
      have hE0 : (E != 0) = true := by rw [bne_iff_ne]; exact hc0
      have HM := Lib.hid hM; have Hb0 := Lib.hid hb0; have Ksm := Lib.hid ksm; have Kck := Lib.hid kck
      clear hM hb0 ksm kck hr hr0 hf hsm hE hc0 hev hl
      go_enter Try.func3, Try.ntmps3
      go_wp2_with fail
      (try rw [hW0])
      refine Ksm.out.mono ?_
      rintro y w1 ⟨rfl, hb1⟩
      have hcM1 := (HM.out.below hb1 HM.out.lt).cell
      have Hb1 := Lib.hid hb1; clear hb1 hcM
      go_wp2_with fail
      refine (Kck.out _ Hb1.out).mono ?_
      rintro y w2 ⟨rfl, hb2⟩
      have h2 := Hb0.out.trans ((Hb1.out.trans (hb2.mono Hb1.out.size)).mono Hb0.out.size)
      go_wp2_with fail
      refine (alive7_any _).mono ?_
      rintro y w3 ⟨rfl, hb3⟩
      go_wp2_with fail
      go_ret
      exact ⟨rfl, h2.trans (hb3.mono h2.size)⟩
end Go.Proofs.Ytfpalamoaflilaa
