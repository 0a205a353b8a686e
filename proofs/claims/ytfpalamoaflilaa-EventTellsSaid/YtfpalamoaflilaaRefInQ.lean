/- chronicleref1.In: read on behind an error too: what is left does not matter there. -/
import Derived.Test.YtfpalamoaflilaaRefText
import Derived.Test.YtfpalamoaflilaaRefInEnd
import Derived.Test.YtfpalamoaflilaaEvGet1
namespace Go.Proofs.Ytfpalamoaflilaa
open Go.RowKit
set_option maxHeartbeats 4000000
set_option maxRecDepth 100000
set_option linter.unusedVariables false

def RinQ (w : World) (base g : Nat) (bs : List UInt8) (x : Int) : Prop := ∃ r, RinIs w base g r x ∧ r.length ≤ 1000000000 ∧ (x = 0 → r = bs)
theorem RinQ.lt {w : World} {base g : Nat} {bs : List UInt8} {x : Int} (h : RinQ w base g bs x) : g < w.heap.size := by obtain ⟨r, h1, _⟩ := h; exact h1.lt
theorem RinQ.lo {w : World} {base g : Nat} {bs : List UInt8} {x : Int} (h : RinQ w base g bs x) : base ≤ g := by obtain ⟨r, h1, _⟩ := h; exact h1.1
theorem RinQ.below {w w' : World} {base g B : Nat} {bs : List UInt8} {x : Int} (h : RinQ w base g bs x) (hb : Below B w w') (hg : g < B) : RinQ w' base g bs x := by
  obtain ⟨r, h1, h2, h3⟩ := h
  exact ⟨r, h1.below hb hg, h2, h3⟩
theorem RinQ.keptBy {w w' : World} {base g q : Nat} {bs : List UInt8} {x : Int} (h : RinQ w base g bs x) (hg : w.grownBy w' (some q)) (hne : g ≠ q) : RinQ w' base g bs x := by
  obtain ⟨r, h1, h2, h3⟩ := h
  exact ⟨r, ⟨h1.1, h1.2.grown hg (fun e => by injection e with e; exact hne e)⟩, h2, h3⟩
theorem RinQ.err {w : World} {base g : Nat} {bs : List UInt8} {x : Int} (h : RinQ w base g bs x) : w.cell? ⟨g, 1, none⟩ = some (.int .i64 x) := by
  obtain ⟨r, h1, _⟩ := h
  simpa using h1.2.cell 1
theorem inText_err (n : Nat) (bs : List UInt8) {x : Int} (h : x ≠ 0) : (inText n bs x).1 = [] ∧ (inText n bs x).2.2 = x := by
  unfold inText
  rw [inTake_err (n := 4) (bs := bs) h]
  dsimp only
  rw [if_neg (fun q => h q.1), inTake_err h]
  exact ⟨rfl, rfl⟩
theorem refNumQ (g base k : Nat) (bs : List UInt8) (x : Int) (w : World) (h : RinQ w base g bs x) (hk : k ≤ 8) :
    Calls Try.prog 57 #[.pointer (some ⟨g, 0, none⟩), .int .i64 (k : Int)] w fun e w' =>
      e = .returned (.int .u64 (beVal (inTake k bs x).1 : Nat)) ∧ RinQ w' base g (inTake k bs x).2.1 (inTake k bs x).2.2 ∧ w.grownBy w' (some g) := by
  obtain ⟨r, h1, h2, h3⟩ := h
  refine (refInNumG g base k r x w h1 h2 hk).mono ?_
  rintro e w' ⟨rfl, k1, k2⟩
  have hf := inTake_few k r x
  by_cases hx : x = 0
  · obtain rfl := h3 hx
    exact ⟨rfl, ⟨_, k1, Nat.le_trans hf h2, fun _ => rfl⟩, k2⟩
  · unfold inNum
    rw [inTake_err (n := k) (bs := r) hx] at k1 ⊢
    rw [inTake_err (n := k) (bs := bs) hx]
    exact ⟨rfl, ⟨r, k1, h2, fun e => absurd e hx⟩, k2⟩
theorem refTextQ (g base most : Nat) (bs : List UInt8) (x : Int) (w : World) (h : RinQ w base g bs x) (hm : most ≤ 1000000) :
    Calls Try.prog 56 #[.pointer (some ⟨g, 0, none⟩), .int .i64 (most : Int)] w fun e w' =>
      e = .returned (.string ⟨(inText most bs x).1.toArray⟩) ∧ RinQ w' base g (inText most bs x).2.1 (inText most bs x).2.2 ∧ w.grownBy w' (some g) := by
  obtain ⟨r, h1, h2, h3⟩ := h
  refine (refInTextG g base most r x w h1 h2 hm).mono ?_
  rintro e w' ⟨r2, rfl, k1, k2, k3, k4⟩
  by_cases hx : x = 0
  · obtain rfl := h3 hx
    exact ⟨rfl, ⟨r2, k1, Nat.le_trans k3 h2, k4⟩, k2⟩
  · obtain ⟨e1, e2⟩ := inText_err most r hx
    obtain ⟨f1, f2⟩ := inText_err most bs hx
    rw [e2] at k1
    rw [e1, f1, f2]
    exact ⟨rfl, ⟨r2, k1, Nat.le_trans k3 h2, fun e => absurd e hx⟩, k2⟩
theorem refEndQ (g base : Nat) (bs : List UInt8) (x : Int) (w : World) (h : RinQ w base g bs x) :
    Calls Try.prog 58 #[.pointer (some ⟨g, 0, none⟩)] w fun e w' => e = .returned (.int .i64 (endL bs x)) ∧ w.grownBy w' (some g) := by
  obtain ⟨r, h1, h2, h3⟩ := h
  refine (refEndG g base r x w h1 h2).mono ?_
  rintro e w' ⟨rfl, k⟩
  refine ⟨?_, k⟩
  by_cases hx : x = 0
  · obtain rfl := h3 hx; rfl
  · unfold endL; rw [if_neg (fun h => hx h.1), if_neg (fun h => hx h.1)]

theorem refOf_any (v : Nat) (w : World) : Calls Try.prog 88 #[.int .u64 (v : Int)] w fun e w' => e = .returned (.float .f64 (canB v)) ∧ w = w' := by
  have hno := nanB_orderG v
  cases hq : nanB v with
  | true =>
    rw [hq] at hno
    have hc : canB v = 9221120237041090560 := by unfold canB; rw [if_pos hq]
    rw [hc]
    clear hc hq
    go_enter Try.func88, Try.ntmps88
    go_wp2_with (first | simp only [run_fromnan] | simp only [run_frombits])
    go_ret
    exact ⟨rfl, rfl⟩
  | false =>
    rw [hq] at hno
    have hc : canB v = v := by unfold canB; rw [hq]; rfl
    rw [hc]
    clear hc hq
    go_enter Try.func88, Try.ntmps88
    go_wp2_with (simp only [run_frombits])
    go_ret
    exact ⟨rfl, rfl⟩
theorem refFloatQ (g base : Nat) (bs : List UInt8) (x : Int) (w : World) (h : RinQ w base g bs x) :
    Calls Try.prog 80 #[.pointer (some ⟨g, 0, none⟩)] w fun e w' =>
      e = .returned (.float .f64 (canB (beVal (inTake 8 bs x).1))) ∧ RinQ w' base g (inTake 8 bs x).2.1 (inTake 8 bs x).2.2 ∧ w.grownBy w' (some g) := by
  have ht := refNumQ g base 8 bs x w h (by omega)
  have hz : (inTake 8 bs x).2.2 ≠ 0 → canB (beVal (inTake 8 bs x).1) = 0 := fun hne => by
    unfold inTake at hne ⊢
    have h00 : canB (beVal []) = 0 := by decide
    split
    · exact h00
    · next h0 =>
      rw [if_neg h0] at hne
      split
      · exact h00
      · next h1 => rw [if_neg h1] at hne; exact absurd rfl hne
  generalize inTake 8 bs x = q at ht hz ⊢
  generalize beVal q.1 = v at ht hz ⊢
  have Ht := Lib.hid ht; clear ht h
  by_cases he : q.2.2 = 0
  · have he1 : (q.2.2 != 0) = false := by simpa using he
    clear hz he
    go_enter Try.func80, Try.ntmps80
    go_wp2_with fail
    refine Ht.out.mono ?_
    rintro e w1 ⟨rfl, h1, hb1⟩
    have hc1 := h1.err
    have H1 := Lib.hid h1; clear h1
    go_wp2_with fail
    refine (refOf_any _ _).mono ?_
    rintro e w2 ⟨rfl, rfl⟩
    go_wp2_with fail
    go_ret
    exact ⟨rfl, H1.out, hb1⟩
  · have he1 : (q.2.2 != 0) = true := by simpa using he
    rw [hz he]
    clear hz he
    go_enter Try.func80, Try.ntmps80
    go_wp2_with fail
    refine Ht.out.mono ?_
    rintro e w1 ⟨rfl, h1, hb1⟩
    have hc1 := h1.err
    have H1 := Lib.hid h1; clear h1
    go_wp2_with fail
    go_ret
    exact ⟨rfl, H1.out, hb1⟩
end Go.Proofs.Ytfpalamoaflilaa
