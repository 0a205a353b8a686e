/- The key of two ends; the net in memory. -/
import Derived.Test.YtadhboioaacaeaaNetLaw
import Derived.Test.YtadhboioaacaeaaRows
import Derived.DeepKeys4
import Derived.RegionTactic
import Derived.Deep.QuietTactic
import Derived.BigQuiet
import Derived.Deep.RegionHeld3
namespace Go.Proofs.Ytadhboioaacaeaa
open Go.RowKit
set_option maxHeartbeats 1000000
set_option maxRecDepth 100000
set_option linter.unusedVariables false

theorem endsWide : (match Try.prog.underlying 53 with | some (.array _ _) | some (.struct _) => true | _ => false) = true := by rw [Try.underlying53]
theorem netLaid : laidOutB Try.prog = true := by kernel_rfl
theorem endsLaw : WideMaps.KeyLaw Try.prog 53 := deep_law_laid netLaid (m := 2) (by omega) (of_decide_eq_true (by kernel_rfl)) (by kernel_rfl) endsWide
theorem endsKey : Maps.Keyed Try.prog 53 := Maps.Keyed.of_law endsLaw
theorem endsIs : Try.prog.keyType 53 = true := by kernel_rfl
theorem endsCells : Try.prog.cellsOf 53 = 2 := by kernel_rfl
theorem intCells : Try.prog.cellsOf 3 = 1 := by kernel_rfl

/-- two ends as a value -/
def endsV (a b : Int) : Value := .agg #[.int .i64 a, .int .i64 b]
theorem keyLits_int (d : Nat) (a : Int) (h : (Lit.int .i64 a).wf = true) : Try.prog.keyLits (d + 1) 3 [.int .i64 a] = some [.int .i64 a] := by
  simp [Program.keyLits, Try.underlying3, h]
theorem endsV_key (a b : Int) (ha : (Lit.int .i64 a).wf = true) (hb : (Lit.int .i64 b).wf = true) : ∃ l, keyOf Try.prog 53 (endsV a b) = some l := by
  have hf : (endsV a b).formed Try.prog 53 = true := by simp [endsV, Value.formed, Try.underlying53, endsCells]
  have h1 : ∀ d, Try.prog.keyLits (d + 1) 53 [.int .i64 a, .int .i64 b] = some [.int .i64 a, .int .i64 b] ∨ d = 0 := by
    intro d
    cases d with
    | zero => exact .inr rfl
    | succ d =>
      left
      simp [Program.keyLits, Try.underlying53, Try.underlying3, endsCells, intCells, List.range, List.range.loop, ha, hb]
  obtain ⟨d, hd⟩ : ∃ d, Try.prog.types.size = d + 1 := ⟨Try.prog.types.size - 1, by have : 0 < Try.prog.types.size := of_decide_eq_true (by kernel_rfl); omega⟩
  unfold keyOf
  rw [Try.underlying53]
  simp only [endsIs, hf, Bool.and_self, if_true, hd]
  rcases h1 (d + 1) with h | h
  · exact ⟨_, by rw [show (endsV a b).cells.toList = [.int .i64 a, .int .i64 b] from rfl, h]; rfl⟩
  · omega
theorem endsV_inj {a b c d : Int} (h : endsV a b = endsV c d) : a = c ∧ b = d := by
  unfold endsV at h
  simpa using h

/-- the set of the ends that are cut -/
def CutD (D : DataW Unit) (C : Int → Int → Bool) : Prop := ∀ a b l, keyOf Try.prog 53 (endsV a b) = some l → Maps.has D l = C a b

/-- the net that lies at block g: its packets, its cuts (k of them at most), in blocks of S alone -/
def NetIs (w : World) (S : Nat → Prop) (g : Nat) (ps : List Pk) (k : Nat) (C : Int → Int → Bool) : Prop :=
  ∃ v r D, BlkIs w g 51 #[v, .map (some r)] ∧ w.ownsRow 0 28 3 v ps.length (pkVs ps) ∧ w.ownsMap Try.prog 53 (unitElem (H := Unit)) r k D ∧ CutD D C ∧ S g ∧ S r ∧ (∀ x, v.ownBlock = some x → S x)

section
variable {w w' : World} {S T : Nat → Prop} {g k : Nat} {ps : List Pk} {C : Int → Int → Bool}
theorem NetIs.lt (h : NetIs w S g ps k C) : g < w.heap.size := by obtain ⟨v, r, D, hb, _⟩ := h; exact hb.lt
theorem NetIs.chg (h : NetIs w S g ps k C) (hc : Chg T w w') (hd : ∀ b, b < w.heap.size → S b → ¬ T b) : NetIs w' S g ps k C := by
  obtain ⟨v, r, D, hb, hr, hm, hD, s1, s2, s3⟩ := h
  have hlt := hr.lt
  exact ⟨v, r, D, hb.chg hc (hd g hb.lt s1), own_chg hr hc (fun x hx => hd x (hlt x hx).2 (s3 x hx)), map_chg hm hc (hd r hm.lt s2), hD, s1, s2, s3⟩
theorem NetIs.shrink (h : NetIs w S g ps k C) : NetIs w (fun b => S b ∧ b < w.heap.size) g ps k C := by
  obtain ⟨v, r, D, hb, hr, hm, hD, s1, s2, s3⟩ := h
  have hlt := hr.lt
  exact ⟨v, r, D, hb, hr, hm, hD, ⟨s1, hb.lt⟩, ⟨s2, hm.lt⟩, fun x hx => ⟨s3 x hx, (hlt x hx).2⟩⟩
theorem NetIs.more (h : NetIs w S g ps k C) (hT : ∀ b, S b → T b) : NetIs w T g ps k C := by
  obtain ⟨v, r, D, hb, hr, hm, hD, s1, s2, s3⟩ := h
  exact ⟨v, r, D, hb, hr, hm, hD, hT _ s1, hT _ s2, fun x hx => hT _ (s3 x hx)⟩
theorem NetIs.drew (h : NetIs w S g ps k C) : NetIs w.drew S g ps k C := h
theorem NetIs.drewN (h : NetIs w S g ps k C) (n : Nat) : NetIs (w.drewN n) S g ps k C := h
theorem NetIs.alloc (h : NetIs w S g ps k C) (o : Obj) : NetIs (w.alloc o) S g ps k C := h.chg (T := fun _ => False) ((Chg.refl _ w).alloc o) (fun _ _ _ h => h)
theorem NetIs.below (h : NetIs w S g ps k C) (hb : Below w.heap.size w w') : NetIs w' S g ps k C := h.chg (T := fun _ => False) (Chg.of_below hb) (fun _ _ _ h => h)
end
theorem info_pk : (Try.prog.info? 28).map (fun i => (i.zero, i.size, i.bytes)) = some (some (.agg #[.int .i64 0, .int .i64 0, .string ByteArray.empty]), 3, 32) := by kernel_rfl

theorem new_any (w : World) :
    Calls Try.prog 8 #[] w fun e w' => e = .returned (.pointer (some ⟨w.heap.size + 1, 0, none⟩)) ∧ NetIs w' (fun b => w.heap.size ≤ b) (w.heap.size + 1) [] 0 (fun _ _ => false) ∧ Below w.heap.size w w' := by
  have hmm := @run_makeMap Try.prog
  go_enter Try.func8, Try.ntmps8
  go_wp2_with fail
  go_ret
  refine ⟨by simp, ⟨.slice none 0 0, w.heap.size, .map [], ?_, World.ownsRow_nil _ _ _ _, (World.ownsMap_made w _ _ _).alloc _, fun a b l _ => rfl, by simp, Nat.le_refl _, fun x hx => by simp [Value.ownBlock] at hx⟩, ((Below.refl _ _).alloc (Nat.le_refl _) _).alloc (by simp) _⟩
  have := BlkIs.new (w.alloc (.map #[] 0)) 51 #[.slice none 0 0, .map (some w.heap.size)]
  simpa using this

theorem ends_any (a b : Int) (w : World) (ha : -9223372036854775808 ≤ a ∧ a ≤ 9223372036854775807) (hb : -9223372036854775808 ≤ b ∧ b ≤ 9223372036854775807) :
    Calls Try.prog 30 #[.int .i64 a, .int .i64 b] w fun e w' => e = .returned (endsV (min a b) (max a b)) ∧ Below w.heap.size w w' := by
  obtain ⟨a1, a2⟩ := ha
  obtain ⟨b1, b2⟩ := hb
  rcases Int.lt_trichotomy a b with h | h | h
  · rw [show min a b = a from by omega, show max a b = b from by omega]
    go_enter Try.func30, Try.ntmps30
    go_wp2_with fail
    exact bodyPost_ret (v := endsV a b) (by simp [results, Try.results30, go_sem, endsV]) rfl ⟨rfl, (Below.refl _ _).alloc (Nat.le_refl _) _⟩
  · subst h
    rw [show min a a = a from by omega, show max a a = a from by omega]
    go_enter Try.func30, Try.ntmps30
    go_wp2_with fail
    all_goals exact bodyPost_ret (v := endsV a a) (by simp [results, Try.results30, go_sem, endsV]) rfl ⟨rfl, (Below.refl _ _).alloc (Nat.le_refl _) _⟩
  · rw [show min a b = b from by omega, show max a b = a from by omega]
    go_enter Try.func30, Try.ntmps30
    go_wp2_with fail
    exact bodyPost_ret (v := endsV b a) (by simp [results, Try.results30, go_sem, endsV]) rfl ⟨rfl, (Below.refl _ _).alloc (Nat.le_refl _) _⟩
end Go.Proofs.Ytadhboioaacaeaa
