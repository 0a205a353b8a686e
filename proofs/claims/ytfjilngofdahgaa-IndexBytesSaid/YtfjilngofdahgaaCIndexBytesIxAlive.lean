/- chapter 14: an index that a law made; alive. -/
import Derived.Test.YtfjilngofdahgaaCIndexBytesIxAdd
import Derived.Test.YtfjilngofdahgaaCIndexBytesIx3
import Derived.Test.YtfjilngofdahgaaCIndexBytesIxLevLaw

namespace Go.Proofs.Ytfjilngofdahgaa
open Go.RowKit
set_option maxHeartbeats 4000000
set_option maxRecDepth 100000
set_option linter.unusedVariables false

/-- entries laid in a new block -/
theorem sl_en (w : World) (ps : List En) (cs : Array Value) (h : cs.toList = enVs ps) : SlR (w.alloc (.cells cs 27)) (w.heap.size + 1) 3 (some ⟨w.heap.size, 0, none⟩) ps.length (enVs ps) := by
  have := SlR.new (n := ps.length) (size := 3) w w.heap.size rfl 27 cs (by rw [h, enVs_length])
  rw [h] at this
  exact this
/-- an index that a law made: its blocks are new, and what was there is as it was -/
def IxNew (W w : World) (g : Nat) (room most : Int) (s : Tb × List Lv) : Prop :=
  ∃ S, IxIs w S g room most s ∧ Below W.heap.size W w ∧ ∀ b, S b → W.heap.size ≤ b
section
variable {W w w' : World} {g : Nat} {room most : Int} {s s' : Tb × List Lv}
theorem IxNew.bel (h : IxNew W w g room most s) : Below W.heap.size W w := by obtain ⟨S, h1, h2, h3⟩ := h; exact h2
theorem IxNew.under (h : IxNew W w g room most s) (hb : Below w.heap.size w w') : IxNew W w' g room most s := by
  obtain ⟨S, h1, h2, h3⟩ := h
  exact ⟨S, h1.below hb, h2.trans (hb.mono h2.size), h3⟩
theorem new_ix (room most : Int) (W w : World) (hb : Below W.heap.size W w) : Calls Try.prog 9 #[.int .i64 room, .int .i64 most] w fun e w' => ∃ g, e = .returned (.pointer (some ⟨g, 0, none⟩)) ∧ IxNew W w' g (max room 1) (max most 2) ([], []) := by
  refine (newX_any room most w).mono ?_
  rintro e w' ⟨g, S, rfl, h1, h2, h3, h4⟩
  exact ⟨g, rfl, S, h2, hb.trans (h3.mono hb.size), fun b hs => Nat.le_trans hb.size (h4 b hs)⟩
theorem add_ix (h : IxNew W w g room most s) (hs : SortedE s.1) (hw : wX s ≤ 600000) (hm : 2 ≤ most) (es : List En) (n c : Nat) (hn : n = es.length) (hn2 : n ≤ 1000) (A : Option Addr) (hr : SlR w w.heap.size 3 A n (enVs es)) (hap : ∀ ad, A = some ad → ad.block < W.heap.size) :
    Calls Try.prog 10 #[.pointer (some ⟨g, 0, none⟩), .slice A n c] w fun e w' => e = .returned (.int .i64 (cntsX room most s es : Nat)) ∧ IxNew W w' g room most (addsX room most s es) := by
  obtain ⟨S, h1, h2, h3⟩ := h
  refine (addX_any S g room most s A n c es w h1 hs (by omega) hm hr (fun _ ad e hS => by have := hap ad e; have := h3 _ hS; omega)).mono ?_
  rintro e w' ⟨rfl, S', k1, k2, k3⟩
  refine ⟨rfl, S', k1, h2.trans (k2.below h3 h2.size), fun b hb => ?_⟩
  rcases k3 b hb with hb | hb
  · exact h3 b hb
  · exact Nat.le_trans h2.size hb
theorem add_one (h : IxNew W w g room most s) (hs : SortedE s.1) (hw : wX s ≤ 600000) (hm : 2 ≤ most) (p : En) (c : Nat) (cs : Array Value) (hcs : cs.toList = enVs [p]) :
    Calls Try.prog 10 #[.pointer (some ⟨g, 0, none⟩), .slice (some ⟨w.heap.size, 0, none⟩) 1 c] (w.alloc (.cells cs 27)) fun e w' => e = .returned (.int .i64 (cntX s p : Nat)) ∧ IxNew W w' g room most (addX room most s p) := by
  obtain ⟨S, h1, h2, h3⟩ := h
  have hb : Below w.heap.size w (w.alloc (.cells cs 27)) := (Below.refl _ _).alloc (Nat.le_refl _) _
  have hlt : ∀ b, S b → b < w.heap.size := by obtain ⟨T, r, v, vs, hx⟩ := h1; exact hx.lt
  have h2' := h2.trans (hb.mono h2.size)
  have hsz : w.heap.size + 1 = (w.alloc (.cells cs 27)).heap.size := by simp
  refine (addX_any S g room most s (some ⟨w.heap.size, 0, none⟩) 1 c [p] _ (h1.below hb) hs (by omega) hm (by have := sl_en w [p] cs hcs; rw [hsz] at this; exact this) (fun _ ad e hS => by injection e with e; subst e; exact Nat.lt_irrefl _ (hlt _ hS))).mono ?_
  rintro e w' ⟨rfl, S', k1, k2, k3⟩
  refine ⟨by simp [cntsX], S', k1, h2'.trans (k2.below h3 h2'.size), fun b hb => ?_⟩
  rcases k3 b hb with hb | hb
  · exact h3 b hb
  · exact Nat.le_trans h2'.size hb
end

def eightE (k : Nat) : List En := (List.range k).map fun (i : Nat) => (((1 : Int), ((i : Nat) : Int), ((i : Nat) : Int)) : En)
theorem eightE_succ (k : Nat) : eightE (k + 1) = eightE k ++ [((1 : Int), ((k : Nat) : Int), ((k : Nat) : Int))] := by simp [eightE, List.range_succ]
theorem eightE_len (k : Nat) : (eightE k).length = k := by simp [eightE]
def atE (k : Nat) : Tb × List Lv := addsX 2 2 ([], []) (eightE k)
theorem atE_succ (k : Nat) : atE (k + 1) = addX 2 2 (atE k) ((1 : Int), ((k : Nat) : Int), ((k : Nat) : Int)) := by
  unfold atE addsX
  rw [eightE_succ, List.foldl_append]
  rfl
theorem atE_sorted (k : Nat) : SortedE (atE k).1 := addsX_sorted 2 2 ([], []) (eightE k) (by simp [SortedE])
theorem atE_w (k : Nat) : wX (atE k) ≤ 3 * k := by
  have := adds_w 2 2 (by omega) ([], []) (eightE k)
  rw [eightE_len] at this
  have h0 : wX (([], []) : Tb × List Lv) = 0 := rfl
  unfold atE
  omega
theorem atE_8 : cutsX (atE 8).2 = [0, 0, 1] ∧ (allX (atE 8).1 (atE 8).2).length = 8 ∧ (atE 8).1.length = 0 ∧ (findE (allX (atE 8).1 (atE 8).2) 1 5).length = 1 := by decide

theorem alive14_any (W : World) : Calls Try.prog 8 #[] W fun e w' => e = .returned (.bool true) ∧ Below W.heap.size W w' := by
  have H8 := Lib.hid atE_8
  go_enter Try.func8, Try.ntmps8
  go_wp2_with fail
  refine (new_ix 2 2 W W (Below.refl _ _)).mono ?_
  rintro e w1 ⟨g, rfl, hn⟩
  rw [show max (2:Int) 1 = 2 from rfl, show max (2:Int) 2 = 2 from rfl] at hn
  have Hn := Lib.hid hn
  clear hn
  go_wp2_with fail
  go_loopw [2] (fun i wr => ∃ k : Nat, k ≤ 8 ∧ i = .int .i64 (k : Int) ∧ IxNew W wr g 2 2 (atE k)) (fun i _ => 8 - (intOf i).toNat)
  case atStart => exact ⟨0, Nat.zero_le _, rfl, Hn.out⟩
  case round =>
    obtain ⟨k, hk, rfl, hi⟩ := hrel
    have hw := atE_w k
    by_cases hlt : k < 8
    · have hlt' : (k : Int) < 8 := by omega
      have hadd := fun c cs hcs => add_one hi (atE_sorted k) (by omega) (by omega) ((1 : Int), (k : Int), (k : Int)) c cs hcs
      have hs := atE_succ k
      have HA := Lib.hid hadd; have Hs := Lib.hid hs
      clear hadd hs hi hw
      go_wp2_with fail
      refine (HA.out _ _ rfl).mono ?_
      rintro e w2 ⟨rfl, hi2⟩
      rw [← Hs.out] at hi2
      have H2 := Lib.hid hi2
      clear hi2
      go_wp2_with fail
      go_roundw
      case rel => exact ⟨k + 1, by omega, by go_num, H2.out⟩
      case measure => simp [intOf] <;> omega
    · obtain rfl : k = 8 := by omega
      have hlev : ∀ wx, IxNew W wx g 2 2 (atE 8) → Calls Try.prog 12 #[.pointer (some ⟨g, 0, none⟩)] wx fun e w' => ∃ u, e = .returned u ∧ w'.ownsRow wx.heap.size 3 1 u 3 (intVs [0, 0, 1]) ∧ Below wx.heap.size wx w' := fun wx h => by
        obtain ⟨S, h1, h2, h3⟩ := h
        have := levelsX_any S g 2 2 (atE 8) wx h1 (by omega)
        rw [H8.out.1] at this
        exact this
      have hlen : ∀ wx, IxNew W wx g 2 2 (atE 8) → Calls Try.prog 13 #[.pointer (some ⟨g, 0, none⟩)] wx fun e w' => e = .returned (.int .i64 8) ∧ Below wx.heap.size wx w' := fun wx h => by
        obtain ⟨S, h1, h2, h3⟩ := h
        have := lenX_any S g 2 2 (atE 8) wx h1 (by omega)
        rw [H8.out.2.1] at this
        exact this
      have hmem : ∀ wx, IxNew W wx g 2 2 (atE 8) → Calls Try.prog 11 #[.pointer (some ⟨g, 0, none⟩)] wx fun e w' => e = .returned (.int .i64 0) ∧ wx = w' := fun wx h => by
        obtain ⟨S, h1, h2, h3⟩ := h
        have := memX_any S g 2 2 (atE 8) wx h1 (by omega)
        rw [H8.out.2.2.1] at this
        exact this
      have hfin : ∀ wx, IxNew W wx g 2 2 (atE 8) → Calls Try.prog 24 #[.pointer (some ⟨g, 0, none⟩), .int .i64 1, .int .i64 5] wx fun e w' => ∃ u, e = .returned u ∧ ∃ vs, w'.ownsRow wx.heap.size 3 1 u 1 vs ∧ Below wx.heap.size wx w' := fun wx h => by
        obtain ⟨S, h1, h2, h3⟩ := h
        have := findX_any S g 2 2 (atE 8) 1 5 wx h1 (by omega)
        rw [H8.out.2.2.2] at this
        refine this.mono ?_
        rintro e w' ⟨u, rfl, h4, h5⟩
        exact ⟨u, rfl, _, h4, h5⟩
      have HL := Lib.hid hlev; have HN := Lib.hid hlen; have HM := Lib.hid hmem; have HF := Lib.hid hfin; have Hi := Lib.hid hi
      clear hlev hlen hmem hfin hi hw hlt
      go_wp2_with fail
      refine (HL.out _ Hi.out).mono ?_
      rintro e w2 ⟨u, rfl, hown, hb⟩
      obtain ⟨A, c, rfl, hnc⟩ := own_slice hown
      have Hi2 := Lib.hid (Hi.out.under hb)
      have hr := SlR.own hown
      obtain ⟨ad, v0, rfl, _, h0, c0⟩ := hr.get (k := 0) (by omega)
      obtain ⟨_, v1, e1, _, h1, c1⟩ := hr.get (k := 1) (by omega)
      obtain ⟨_, v2, e2, _, h2, c2⟩ := hr.get (k := 2) (by omega)
      injection e1 with e1; injection e2 with e2; subst e1; subst e2
      simp [intVs] at h0 h1 h2
      subst h0 h1 h2
      have hb2 := Lib.hid hb
      clear hown hb hr
      have c0' : w2.cell? ad = some (Value.int IntKind.i64 0) := c0
      have c1' : w2.cell? ⟨ad.block, ad.off + 1, none⟩ = some (Value.int IntKind.i64 0) := c1
      have c2' : w2.cell? ⟨ad.block, ad.off + 2, none⟩ = some (Value.int IntKind.i64 1) := c2
      go_wp2_with fail
      refine (HN.out _ Hi2.out).mono ?_
      rintro e w3 ⟨rfl, hb3⟩
      have Hi3 := Lib.hid (Hi2.out.under hb3)
      clear hb3
      go_wp2_with fail
      refine (HM.out _ Hi3.out).mono ?_
      rintro e w4 ⟨rfl, rfl⟩
      go_wp2_with fail
      refine (HF.out _ Hi3.out).mono ?_
      rintro e w5 ⟨u5, rfl, vs5, hown5, hb5⟩
      obtain ⟨A5, c5, rfl, hnc5⟩ := own_slice hown5
      have Hi5 := Lib.hid (Hi3.out.under hb5)
      clear hown5 hb5
      go_wp2_with fail
      go_ret
      exact ⟨rfl, Hi5.out.bel⟩
end Go.Proofs.Ytfjilngofdahgaa
