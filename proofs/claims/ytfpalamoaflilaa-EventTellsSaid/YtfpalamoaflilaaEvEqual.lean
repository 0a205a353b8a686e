/- chapter 7: lists of events held against each other; two commands. -/
import Derived.Test.YtfpalamoaflilaaEvSame
namespace Go.Proofs.Ytfpalamoaflilaa
open Go.RowKit
set_option maxHeartbeats 2000000
set_option maxRecDepth 100000
set_option linter.unusedVariables false
attribute [local go_sem] run_store_flt

theorem sameEs_of {l m : List Ev} (hl : l.length = m.length) (h : ∀ (j : Nat) (p q : Ev), l[j]? = some p → m[j]? = some q → sameE p q = true) : sameEs l m = true := by
  unfold sameEs
  rw [decide_eq_true hl, Bool.true_and, List.all_eq_true]
  rintro ⟨p, q⟩ hpq
  obtain ⟨j, hj⟩ := List.getElem?_of_mem hpq
  rw [List.getElem?_zip_eq_some] at hj
  exact h j p q hj.1 hj.2
theorem sameEs_no {l m : List Ev} {j : Nat} {p q : Ev} (hp : l[j]? = some p) (hq : m[j]? = some q) (h : sameE p q = false) : sameEs l m = false := by
  cases hs : sameEs l m with
  | false => rfl
  | true =>
    unfold sameEs at hs
    rw [Bool.and_eq_true, List.all_eq_true] at hs
    have := hs.2 (p, q) (List.mem_of_getElem? (i := j) (List.getElem?_zip_eq_some.2 ⟨hp, hq⟩))
    rw [h] at this; cases this

theorem equalFunc_any (A D : Option Addr) (n m c d B : Nat) (es fs : List Ev) (w : World) (ha : SlR w B 4 A n (evVs es)) (hb : SlR w B 4 D m (evVs fs)) (hB : B ≤ w.heap.size) (hn : n ≤ 1000000000) (hm : m ≤ 1000000000) :
    Calls Try.prog 64 #[.slice A n c, .slice D m d, .func (.func 21) #[] #[]] w fun e w' => e = .returned (.bool (sameEs es fs)) ∧ Below w.heap.size w w' := by
  have hl : es.length = n := by have := ha.len; rw [evVs_length] at this; omega
  have hl2 : fs.length = m := by have := hb.len; rw [evVs_length] at this; omega
  by_cases hnm : n = m
  · subst hnm
    have Ha := Lib.hid ha; have Hb := Lib.hid hb; have Hl := Lib.hid hl; have Hl2 := Lib.hid hl2
    have hd : ((n : Int) != (n : Int)) = false := by simp
    clear ha hb hl hl2
    go_enter Try.func64, Try.ntmps64
    go_wp2_with fail
    go_loopw [17] (fun i wr => ∃ k : Nat, k ≤ n ∧ i = .int .i64 (k : Int) ∧ Hid ((∀ (j : Nat) (p q : Ev), j < k → es[j]? = some p → fs[j]? = some q → sameE p q = true) ∧ Below w.heap.size w wr)) (fun i _ => n - (intOf i).toNat)
    case atStart => exact ⟨0, Nat.zero_le _, rfl, Lib.hid ⟨fun j _ _ h => absurd h (by omega), Below.refl _ _⟩⟩
    case round =>
      obtain ⟨k, hk, rfl, HI⟩ := hrel
      have hk0 : 0 ≤ (k : Int) := by omega
      by_cases hlt : k < n
      · obtain ⟨ad, ⟨p0, p1, p2, p3⟩, rfl, had, hp, hc⟩ := Ha.out.ev hlt
        obtain ⟨bd, ⟨q0, q1, q2, q3⟩, rfl, hbd, hq, hc'⟩ := Hb.out.ev hlt
        obtain ⟨a0, a1, a2, a3⟩ := hc.below (HI.out.2.mono hB) (by rw [add_block]; exact had)
        obtain ⟨b0, b1, b2, b3⟩ := hc'.below (HI.out.2.mono hB) (by rw [add_block]; exact hbd)
        dsimp only at a0 a1 a2 a3 b0 b1 b2 b3
        have hlt1 : (k : Int) < (n : Int) := by omega
        have hB1 : (bd.add (k * 4)).block < wr.heap.size := by have := HI.out.2.size; rw [add_block]; omega
        have hA1 : (ad.add (k * 4)).block < wr.heap.size := by have := HI.out.2.size; rw [add_block]; omega
        have hbe : Below w.heap.size w ((wr.alloc (.cells #[.int .i64 p0, .string p1, .string p2, .float .f64 p3] 33)).alloc (.cells #[.int .i64 q0, .string q1, .string q2, .float .f64 q3] 33)) := (HI.out.2.alloc HI.out.2.size _).alloc (by have := HI.out.2.size; simp; omega) _
        have hse := fun w => sameEvent_any ⟨p0, p1, p2, p3⟩ ⟨q0, q1, q2, q3⟩ w
        have Hp := Lib.hid hp; have Hq := Lib.hid hq; have Hbe := Lib.hid hbe
        unfold evA at hse
        dsimp only at hse
        have hsz := HI.out.2.size
        clear hp hq hc hc' hbe had hbd
        cases hs : sameE ⟨p0, p1, p2, p3⟩ ⟨q0, q1, q2, q3⟩ with
        | true =>
          rw [hs] at hse
          have Hs := Lib.hid hs; have Hse := Lib.hid hse
          clear hs hse
          go_wp2_with fail
          refine (Hse.out _).mono ?_
          rintro e w1 ⟨rfl, hb1⟩
          have hfin : Hid ((∀ (j : Nat) (p q : Ev), j < k + 1 → es[j]? = some p → fs[j]? = some q → sameE p q = true) ∧ Below w.heap.size w w1) := Lib.hid ⟨fun j p q hj h1 h2 => by
            rcases Nat.lt_succ_iff_lt_or_eq.1 hj with h3 | rfl
            · exact HI.out.1 j p q h3 h1 h2
            · rw [Hp.out] at h1; rw [Hq.out] at h2
              injection h1 with h1; injection h2 with h2
              rw [← h1, ← h2]; exact Hs.out, Hbe.out.trans (hb1.mono Hbe.out.size)⟩
          clear hb1
          go_wp2_with fail
          go_roundw
          case rel => exact ⟨k + 1, by omega, by go_num, hfin⟩
          case measure => simp [intOf]; omega
        | false =>
          rw [hs] at hse
          have Hno := Lib.hid (sameEs_no Hp.out Hq.out hs)
          have Hse := Lib.hid hse
          clear hs hse
          go_wp2_with fail
          refine (Hse.out _).mono ?_
          rintro e w1 ⟨rfl, hb1⟩
          have hfin := Lib.hid (Hbe.out.trans (hb1.mono Hbe.out.size))
          clear hb1
          go_wp2_with fail
          go_ret
          exact ⟨by rw [Hno.out]; rfl, hfin.out⟩
      · obtain rfl : k = n := by omega
        have hdd : decide (k < k) = false := by simp
        have Hye := Lib.hid (sameEs_of (Hl.out.trans Hl2.out.symm) (fun j p q h1 h2 => HI.out.1 j p q (by rw [← Hl.out]; exact (List.getElem?_eq_some_iff.1 h1).1) h1 h2))
        go_wp2_with fail
        go_ret
        exact ⟨by rw [Hye.out]; rfl, HI.out.2⟩
  · have hd : ((n : Int) != (m : Int)) = true := by simpa using (by omega : ¬ (n : Int) = m)
    have hr : sameEs es fs = false := by unfold sameEs; rw [decide_eq_false (by rw [hl, hl2]; exact hnm)]; rfl
    rw [hr]
    clear ha hb hl hl2 hr hnm
    go_enter Try.func64, Try.ntmps64
    go_wp2_with fail
    go_ret
    exact ⟨rfl, Below.refl _ _⟩

theorem meta_eql (a b c x y z : Int) (w : World) : (binOp .eql 24 (.agg #[.int .i64 a, .int .i64 b, .int .i64 c]) (.agg #[.int .i64 x, .int .i64 y, .int .i64 z])).run Try.prog w = .ok (.bool ((a == x) && ((b == y) && (c == z)))) w := by
  go_simp
  split
  · split
    · split <;> simp_all
    · simp_all
  · simp_all

def cmdV (k t : Int) (s : ByteArray) (x : Int) (v : Value) (m0 m1 m2 : Int) : Value := .agg #[.int .i64 k, .int .i64 t, .string s, .int .i64 x, v, .int .i64 m0, .int .i64 m1, .int .i64 m2]
theorem same_any (k t : Int) (s : ByteArray) (x : Int) (A : Option Addr) (n c : Nat) (es : List Ev) (m0 m1 m2 : Int) (k' t' : Int) (s' : ByteArray) (x' : Int) (D : Option Addr) (m d : Nat) (fs : List Ev) (p0 p1 p2 : Int) (B : Nat) (w : World)
    (ha : SlR w B 4 A n (evVs es)) (hb : SlR w B 4 D m (evVs fs)) (hB : B ≤ w.heap.size) (hn : n ≤ 1000000000) (hm : m ≤ 1000000000) :
    Calls Try.prog 31 #[.agg #[.int .i64 k, .int .i64 t, .string s, .int .i64 x, .slice A n c, .int .i64 m0, .int .i64 m1, .int .i64 m2], .agg #[.int .i64 k', .int .i64 t', .string s', .int .i64 x', .slice D m d, .int .i64 p0, .int .i64 p1, .int .i64 p2]] w fun e w' =>
      e = .returned (.bool (sameC ⟨k, t, s, x, es, m0, m1, m2⟩ ⟨k', t', s', x', fs, p0, p1, p2⟩)) ∧ Below w.heap.size w w' := by
  have hb1 : Below w.heap.size w ((w.alloc (.cells #[.int .i64 k, .int .i64 t, .string s, .int .i64 x, .slice A n c, .int .i64 m0, .int .i64 m1, .int .i64 m2] 26)).alloc (.cells #[.int .i64 k', .int .i64 t', .string s', .int .i64 x', .slice D m d, .int .i64 p0, .int .i64 p1, .int .i64 p2] 26)) := ((Below.refl _ _).alloc (Nat.le_refl _) _).alloc (by simp) _
  have heq := equalFunc_any A D n m c d B es fs _ (ha.below (hb1.mono hB)) (hb.below (hb1.mono hB)) (Nat.le_trans hB hb1.size) hn hm
  have Hb := Lib.hid hb1; have Heq := Lib.hid heq
  have q3 := str_beq s s'
  clear hb1 heq ha hb
  unfold sameC
  dsimp only
  by_cases h1 : k = k'
  · rw [decide_eq_true h1]
    have e1 : (k == k') = true := by simpa using h1
    by_cases h2 : t = t'
    · rw [decide_eq_true h2]
      have e2 : (t == t') = true := by simpa using h2
      by_cases h3 : s = s'
      · rw [decide_eq_true h3]
        rw [decide_eq_true h3] at q3
        by_cases h4 : x = x'
        · rw [decide_eq_true h4]
          have e4 : (x == x') = true := by simpa using h4
          have hme := meta_eql m0 m1 m2 p0 p1 p2
          have e5 : ((m0 == p0) && ((m1 == p1) && (m2 == p2))) = (decide (m0 = p0) && decide (m1 = p1) && decide (m2 = p2)) := by
            rw [Bool.eq_iff_iff]; simp [and_assoc]
          rw [e5] at hme
          clear e5
          cases h5 : (decide (m0 = p0) && decide (m1 = p1) && decide (m2 = p2)) with
          | true =>
            rw [h5] at hme
            generalize sameEs es fs = y at Heq ⊢
            clear h1 h2 h3 h4 h5
            go_enter Try.func31, Try.ntmps31
            go_wp2_with fail
            refine Heq.out.mono ?_
            rintro e w1 ⟨rfl, hb1⟩
            have Hb2 := Lib.hid (Hb.out.trans (hb1.mono Hb.out.size))
            clear hb1
            go_wp2_with fail
            go_ret
            exact ⟨rfl, Hb2.out⟩
          | false =>
            rw [h5] at hme
            clear h1 h2 h3 h4 h5
            go_enter Try.func31, Try.ntmps31
            go_wp2_with fail
            go_ret
            exact ⟨rfl, Hb.out⟩
        · rw [decide_eq_false h4]
          have e4 : (x == x') = false := by simpa using h4
          clear h1 h2 h3 h4
          go_enter Try.func31, Try.ntmps31
          go_wp2_with fail
          go_ret
          exact ⟨rfl, Hb.out⟩
      · rw [decide_eq_false h3]
        rw [decide_eq_false h3] at q3
        clear h1 h2 h3
        go_enter Try.func31, Try.ntmps31
        go_wp2_with fail
        go_ret
        exact ⟨rfl, Hb.out⟩
    · rw [decide_eq_false h2]
      have e2 : (t == t') = false := by simpa using h2
      clear h1 h2 q3
      go_enter Try.func31, Try.ntmps31
      go_wp2_with fail
      go_ret
      exact ⟨rfl, Hb.out⟩
  · rw [decide_eq_false h1]
    have e1 : (k == k') = false := by simpa using h1
    clear h1 q3
    go_enter Try.func31, Try.ntmps31
    go_wp2_with fail
    go_ret
    exact ⟨rfl, Hb.out⟩
end Go.Proofs.Ytfpalamoaflilaa
