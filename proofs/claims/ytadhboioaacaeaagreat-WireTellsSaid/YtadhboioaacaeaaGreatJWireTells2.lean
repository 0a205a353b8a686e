/- The key of two ends; the net in memory. -/
import Derived.Test.YtadhboioaacaeaaGreatCWireTellsNetLaw
import Derived.Test.YtadhboioaacaeaaGreatRows
import Derived.DeepKeys4
import Derived.RegionTactic
import Derived.Deep.QuietTactic
import Derived.BigQuiet
import Derived.Deep.RegionHeld3
import Derived.BigRegion

namespace Go.Proofs.YtadhboioaacaeaaGreat
open Go.RowKit
set_option maxHeartbeats 1000000
set_option maxRecDepth 100000
set_option linter.unusedVariables false

theorem endsWide : (match Tryz.prog.underlying 141 with | some (.array _ _) | some (.struct _) => true | _ => false) = true := by rw [Tryz.underlying141]
theorem netLaid : laidOutB Tryz.prog = true := by kernel_rfl
theorem endsLaw : WideMaps.KeyLaw Tryz.prog 141 := deep_law_laid netLaid (m := 2) (by omega) (of_decide_eq_true (by kernel_rfl)) (by kernel_rfl) endsWide
theorem endsKey : Maps.Keyed Tryz.prog 141 := Maps.Keyed.of_law endsLaw
theorem endsIs : Tryz.prog.keyType 141 = true := by kernel_rfl
theorem endsCells : Tryz.prog.cellsOf 141 = 2 := by kernel_rfl
theorem intCells : Tryz.prog.cellsOf 3 = 1 := by kernel_rfl

/-- two ends as a value -/
def endsV (a b : Int) : Value := .agg #[.int .i64 a, .int .i64 b]
theorem keyLits_int (d : Nat) (a : Int) (h : (Lit.int .i64 a).wf = true) : Tryz.prog.keyLits (d + 1) 3 [.int .i64 a] = some [.int .i64 a] := by
  simp [Program.keyLits, Tryz.underlying3, h]
theorem endsV_key (a b : Int) (ha : (Lit.int .i64 a).wf = true) (hb : (Lit.int .i64 b).wf = true) : ∃ l, keyOf Tryz.prog 141 (endsV a b) = some l := by
  have hf : (endsV a b).formed Tryz.prog 141 = true := by simp [endsV, Value.formed, Tryz.underlying141, endsCells]
  have h1 : ∀ d, Tryz.prog.keyLits (d + 1) 141 [.int .i64 a, .int .i64 b] = some [.int .i64 a, .int .i64 b] ∨ d = 0 := by
    intro d
    cases d with
    | zero => exact .inr rfl
    | succ d =>
      left
      simp [Program.keyLits, Tryz.underlying141, Tryz.underlying3, endsCells, intCells, List.range, List.range.loop, ha, hb]
  obtain ⟨d, hd⟩ : ∃ d, Tryz.prog.types.size = d + 1 := ⟨Tryz.prog.types.size - 1, by have : 0 < Tryz.prog.types.size := of_decide_eq_true (by kernel_rfl); omega⟩
  unfold keyOf
  rw [Tryz.underlying141]
  simp only [endsIs, hf, Bool.and_self, if_true, hd]
  rcases h1 (d + 1) with h | h
  · exact ⟨_, by rw [show (endsV a b).cells.toList = [.int .i64 a, .int .i64 b] from rfl, h]; rfl⟩
  · omega
theorem endsV_inj {a b c d : Int} (h : endsV a b = endsV c d) : a = c ∧ b = d := by
  unfold endsV at h
  simpa using h

/-- the set of the ends that are cut -/
def CutD (D : DataW Unit) (C : Int → Int → Bool) : Prop := ∀ a b l, keyOf Tryz.prog 141 (endsV a b) = some l → Maps.has D l = C a b

/-- the net that lies at block g: its packets, its cuts (k of them at most), in blocks of S alone -/
def NetIs (w : World) (S : Nat → Prop) (g : Nat) (ps : List Pk) (k : Nat) (C : Int → Int → Bool) : Prop :=
  ∃ v r D, BlkIs w g 102 #[v, .map (some r)] ∧ w.ownsRow 0 57 3 v ps.length (pkVs ps) ∧ w.ownsMap Tryz.prog 141 (unitElem (H := Unit)) r k D ∧ CutD D C ∧ S g ∧ S r ∧ (∀ x, v.ownBlock = some x → S x)

section
variable {w w' : World} {S T : Nat → Prop} {g k : Nat} {ps : List Pk} {C : Int → Int → Bool}
theorem NetIs.lt (h : NetIs w S g ps k C) : g < w.heap.size := by obtain ⟨v, r, D, hb, _⟩ := h; exact hb.lt
theorem NetIs.chg (h : NetIs w S g ps k C) (hc : Chg T w w') (hd : ∀ b, b < w.heap.size → S b → ¬ T b) : NetIs w' S g ps k C := by
  obtain ⟨v, r, D, hb, hr, hm, hD, s1, s2, s3⟩ := h
  have hlt := hr.lt
  exact ⟨v, r, D, hb.chg hc (hd g hb.lt s1), own_chg hr hc (fun x hx => hd x (hlt x hx).2 (s3 x hx)), map_chg hm hc (hd r hm.lt s2), hD, s1, s2, s3⟩
theorem NetIs.shrink (h : NetIs w S g ps k C) : NetIs w (fun b => S b ∧ b < w.heap.size) g ps k C := by
  obtain ⟨v, r, D, hb, hr, hm, hD, s1, s2, s3⟩ := h
  have hlt := hr.lt
  exact ⟨v, r, D, hb, hr, hm, hD, ⟨s1, hb.lt⟩, ⟨s2, hm.lt⟩, fun x hx => ⟨s3 x hx, (hlt x hx).2⟩⟩
theorem NetIs.more (h : NetIs w S g ps k C) (hT : ∀ b, S b → T b) : NetIs w T g ps k C := by
  obtain ⟨v, r, D, hb, hr, hm, hD, s1, s2, s3⟩ := h
  exact ⟨v, r, D, hb, hr, hm, hD, hT _ s1, hT _ s2, fun x hx => hT _ (s3 x hx)⟩
theorem NetIs.drew (h : NetIs w S g ps k C) : NetIs w.drew S g ps k C := h
theorem NetIs.drewN (h : NetIs w S g ps k C) (n : Nat) : NetIs (w.drewN n) S g ps k C := h
theorem NetIs.alloc (h : NetIs w S g ps k C) (o : Obj) : NetIs (w.alloc o) S g ps k C := h.chg (T := fun _ => False) ((Chg.refl _ w).alloc o) (fun _ _ _ h => h)
theorem NetIs.below (h : NetIs w S g ps k C) (hb : Below w.heap.size w w') : NetIs w' S g ps k C := h.chg (T := fun _ => False) (Chg.of_below hb) (fun _ _ _ h => h)
end
theorem info_pk : (Tryz.prog.info? 57).map (fun i => (i.zero, i.size, i.bytes)) = some (some (.agg #[.int .i64 0, .int .i64 0, .string ByteArray.empty]), 3, 32) := by kernel_rfl

theorem new_any (w : World) :
    Calls Tryz.prog 17 #[] w fun e w' => e = .returned (.pointer (some ⟨w.heap.size + 1, 0, none⟩)) ∧ NetIs w' (fun b => w.heap.size ≤ b) (w.heap.size + 1) [] 0 (fun _ _ => false) ∧ Below w.heap.size w w' := by
  have hmm := @run_makeMap Tryz.prog
  go_enter Tryz.func17, Tryz.ntmps17
  go_wp2_with fail
  go_ret
  refine ⟨by simp, ⟨.slice none 0 0, w.heap.size, .map [], ?_, World.ownsRow_nil _ _ _ _, (World.ownsMap_made w _ _ _).alloc _, fun a b l _ => rfl, by simp, Nat.le_refl _, fun x hx => by simp [Value.ownBlock] at hx⟩, ((Below.refl _ _).alloc (Nat.le_refl _) _).alloc (by simp) _⟩
  have := BlkIs.new (w.alloc (.map #[] 0)) 102 #[.slice none 0 0, .map (some w.heap.size)]
  simpa using this

theorem ends_any (a b : Int) (w : World) (ha : -9223372036854775808 ≤ a ∧ a ≤ 9223372036854775807) (hb : -9223372036854775808 ≤ b ∧ b ≤ 9223372036854775807) :
    Calls Tryz.prog 98 #[.int .i64 a, .int .i64 b] w fun e w' => e = .returned (endsV (min a b) (max a b)) ∧ Below w.heap.size w w' := by
  obtain ⟨a1, a2⟩ := ha
  obtain ⟨b1, b2⟩ := hb
  rcases Int.lt_trichotomy a b with h | h | h
  · rw [show min a b = a from by omega, show max a b = b from by omega]
    go_enter Tryz.func98, Tryz.ntmps98
    go_wp2_with fail
    exact bodyPost_ret (v := endsV a b) (by simp [results, Tryz.results98, go_sem, endsV]) rfl ⟨rfl, (Below.refl _ _).alloc (Nat.le_refl _) _⟩
  · subst h
    rw [show min a a = a from by omega, show max a a = a from by omega]
    go_enter Tryz.func98, Tryz.ntmps98
    go_wp2_with fail
    all_goals exact bodyPost_ret (v := endsV a a) (by simp [results, Tryz.results98, go_sem, endsV]) rfl ⟨rfl, (Below.refl _ _).alloc (Nat.le_refl _) _⟩
  · rw [show min a b = b from by omega, show max a b = a from by omega]
    go_enter Tryz.func98, Tryz.ntmps98
    go_wp2_with fail
    exact bodyPost_ret (v := endsV b a) (by simp [results, Tryz.results98, go_sem, endsV]) rfl ⟨rfl, (Below.refl _ _).alloc (Nat.le_refl _) _⟩
end Go.Proofs.YtadhboioaacaeaaGreat

/- The net: one packet put. -/
namespace Go.Proofs.YtadhboioaacaeaaGreat
open Go.RowKit
set_option maxHeartbeats 1000000
set_option maxRecDepth 100000
set_option linter.unusedVariables false

/-- what a call makes of the net -/
def NetStep (S : Nat → Prop) (g : Nat) (w w' : World) (ps : List Pk) (k : Nat) (C : Int → Int → Bool) : Prop :=
  ∃ S', NetIs w' S' g ps k C ∧ Chg S w w' ∧ ∀ b, S' b → S b ∨ w.heap.size ≤ b
/-- is there room, and are the ends not cut? -/
def putB (C : Int → Int → Bool) (ps : List Pk) (p : Pk) : Bool := !C (min p.1 p.2.1) (max p.1 p.2.1) && decide (ps.length < 2000)
def putL (C : Int → Int → Bool) (ps : List Pk) (p : Pk) : List Pk := if putB C ps p then ps ++ [p] else ps
/-- a packet as a value -/
def pkA (p : Pk) : Value := .agg #[.int .i64 p.1, .int .i64 p.2.1, .string p.2.2]

theorem NetIs.same {S : Nat → Prop} {g k : Nat} {ps : List Pk} {C : Int → Int → Bool} {w w' : World} (h : NetIs w S g ps k C) (hb : Below w.heap.size w w') : NetStep S g w w' ps k C :=
  ⟨S, h.below hb, Chg.of_below hb, fun _ hs => .inl hs⟩
theorem netStep_row {S : Nat → Prop} {g k n r : Nat} {xs : List Value} {ps : List Pk} {C : Int → Int → Bool} {w X w4 : World} {v v' : Value} {D : DataW Unit}
    (hB : BlkIs X g 102 #[v, .map (some r)]) (hr : X.ownsRow 0 57 3 v n xs) (hm : X.ownsMap Tryz.prog 141 (unitElem (H := Unit)) r k D) (hD : CutD D C) (s1 : S g) (s2 : S r) (s3 : ∀ x, v.ownBlock = some x → S x)
    (hC : Chg S w X) (hg : X.grownBy w4 v.ownBlock) (hown : w4.ownsRow 0 57 3 v' ps.length (pkVs ps)) (hat : ∀ b, v'.ownBlock = some b → v.ownBlock = some b ∨ X.heap.size ≤ b) :
    NetStep S g w (w4.setCell ⟨g, 0, none⟩ v') ps k C := by
  have hne := own_ne_blk hr hB (by decide)
  have hB4 := hB.grown hg (Ne.symm hne)
  have hne4 := own_ne_blk hown hB4 (by decide)
  have hm4 := hm.kept hg (Ne.symm (own_ne_map hm hr))
  refine ⟨fun b => S b ∨ w.heap.size ≤ b, ⟨v', r, D, hB4.put 0 v', own_far hown hne4 _, hm4.setCell (Ne.symm (blk_ne_map hm hB)) _, hD, .inl s1, .inl s2, fun x hx => ?_⟩, (hC.grown hg (fun x hx _ => s3 x hx)).set (fun _ => s1) _, fun b hb => hb⟩
  rcases hat x hx with h | h
  · exact .inl (s3 x h)
  · exact .inr (Nat.le_trans hC.size h)
theorem below_new {B : Nat} {a w : World} (h : Below B a w) (hB : B ≤ a.heap.size) (o : Obj) : Below B a (w.alloc o) := h.alloc (Nat.le_trans hB h.size) o

theorem wp_world {P : Program} {c : Code} {Q : Exit → Act → World → Prop} {a : Act} {w W : World} {B : Nat} (h : ∀ X, Below B W X → Code.wp P c Q a X) (hb : Below B W w) : Code.wp P c Q a w := h w hb
theorem unit_zero (w : World) : (zeroValue 139).run Tryz.prog w = .ok (.agg #[]) w := by kernel_rfl
theorem net_look {w : World} {r k : Nat} {D : DataW Unit} (h : w.ownsMap Tryz.prog 141 (unitElem (H := Unit)) r k D) {key : Value} {l : Lit} (hkey : keyOf Tryz.prog 141 key = some l) {b : Bool} (hb : Maps.has D l = b) :
    (Instr.lookup 99 (.map (some r)) key true).run Tryz.prog w = .ok (.tuple #[.agg #[], .bool b]) w := by
  subst hb
  obtain ⟨v, ps, hrun, hr⟩ := h.look_ok endsKey Tryz.underlying99 (unit_zero w) unitElem_mk hkey
  have e := (unitElem_inv hr).1
  subst e
  exact hrun

theorem put_any (S : Nat → Prop) (g k : Nat) (ps : List Pk) (C : Int → Int → Bool) (x y : Int) (s : ByteArray) (w : World) (h : NetIs w S g ps k C) (hx : -9223372036854775808 ≤ x ∧ x ≤ 9223372036854775807) (hy : -9223372036854775808 ≤ y ∧ y ≤ 9223372036854775807) :
    Calls Tryz.prog 70 #[.pointer (some ⟨g, 0, none⟩), .agg #[.int .i64 x, .int .i64 y, .string s]] w fun e w' => e = .returned (.bool (putB C ps (x, y, s))) ∧ NetStep S g w w' (putL C ps (x, y, s)) k C := by
  obtain ⟨W, hW⟩ : ∃ W, W = w.alloc (.cells #[.int .i64 x, .int .i64 y, .string s] 57) := ⟨_, rfl⟩
  have hbW : Below w.heap.size w W := by rw [hW]; exact (Below.refl _ _).alloc (Nat.le_refl _) _
  have hW1 : W.heap.size = w.heap.size + 1 := by rw [hW]; simp
  have hk0 : W.cell? ⟨w.heap.size, 0, none⟩ = some (.int .i64 x) := by rw [hW]; simp
  have hk1 : W.cell? ⟨w.heap.size, 1, none⟩ = some (.int .i64 y) := by rw [hW]; simp
  have hk2 : W.cell? ⟨w.heap.size, 2, none⟩ = some (.string s) := by rw [hW]; simp
  have h0 := Lib.hid h
  obtain ⟨v, r, D, hB0, hr0, hm0, hD, s1, s2, s3⟩ := id h
  have hltw : ∀ q, v.ownBlock = some q → q < w.heap.size := fun q hq => (hr0.lt q hq).2
  have hgw := hB0.lt
  have hB := hB0.below hbW hgw
  have hr := own_below hr0 hbW hltw
  have hm := map_chg hm0 (Chg.of_below (S := fun _ => False) hbW) (fun h => h)
  clear hB0 hr0 hm0
  have hgW : w.heap.size < W.heap.size := by omega
  have hg := hB.lt
  have hc0 := hB.cell 0
  have hc1 := hB.cell 1
  have hf0 := hB.free 0
  simp at hc0 hc1
  obtain ⟨l, hl⟩ := endsV_key (min x y) (max x y) (by simp [Lit.wf, IntKind.min, IntKind.max, IntKind.signed, IntKind.bits]; omega) (by simp [Lit.wf, IntKind.min, IntKind.max, IntKind.signed, IntKind.bits]; omega)
  have hC := hD _ _ l hl
  have KS : ∀ wx, Below W.heap.size W wx → wx.cell? ⟨g, 1, none⟩ = some (.map (some r)) ∧ wx.cell? ⟨w.heap.size, 0, none⟩ = some (.int .i64 x) ∧ wx.cell? ⟨w.heap.size, 1, none⟩ = some (.int .i64 y) ∧
      (Instr.lookup 99 (.map (some r)) (endsV (min x y) (max x y)) true).run Tryz.prog wx = .ok (.tuple #[.agg #[], .bool (C (min x y) (max x y))]) wx := fun wx hb =>
    ⟨(hb.cell (p := ⟨g, 1, none⟩) hg).trans hc1, (hb.cell (p := ⟨w.heap.size, 0, none⟩) (by simp [hW1])).trans hk0, (hb.cell (p := ⟨w.heap.size, 1, none⟩) (by simp [hW1])).trans hk1, net_look (map_chg hm (Chg.of_below (S := fun _ => False) hb) (fun h => h)) hl hC⟩
  have KS := Lib.hid KS
  have HM := Lib.hid hm
  have HD := Lib.hid hD
  have Hend := Lib.hid (ends_any x y)
  clear hk0 hk1 hm hl hC hD hc1
  by_cases hcut : C (min x y) (max x y) = true
  · have hv : putB C ps (x, y, s) = false := by unfold putB; simp [hcut]
    have hvl : putL C ps (x, y, s) = ps := by unfold putL; rw [hv]; rfl
    rw [hv, hvl]
    rw [hcut] at KS
    have HbW := Lib.hid hbW
    clear hr hB hv hvl hcut h s3 hc0 hf0 hk2 hW1 hbW
    go_enter Tryz.func70, Tryz.ntmps70
    go_wp2_with fail
    rw [← hW]
    clear hW
    go_region_held3 (fun wx => wx.cell? ⟨g, 1, none⟩ = some (.map (some r)) ∧ wx.cell? ⟨w.heap.size, 0, none⟩ = some (.int .i64 x) ∧ wx.cell? ⟨w.heap.size, 1, none⟩ = some (.int .i64 y) ∧ (Instr.lookup 99 (.map (some r)) (endsV (min x y) (max x y)) true).run Tryz.prog wx = .ok (.tuple #[.agg #[], .bool true]) wx)
      (first | exact KS.out _ (Below.refl _ _).drew | exact KS.out _ ((Below.refl _ _).drew.alloc (Nat.le_refl _) _) | exact KS.out _ HB2.out | exact KS.out _ (HB2.out.alloc HB2.out.size _))
      ((go_at_call 98; refine (Hend.out _ hx hy).mono ?_; rintro e w2 ⟨rfl, hb2⟩; have HB2 : Hid (Below W.heap.size W w2) := (Lib.hid (by first | exact below_undrew hb2 | exact ((Below.refl _ _).drew.alloc (Nat.le_refl _) _).trans (hb2.mono (by simp)))); clear hb2))
    all_goals go_wp2_with fail
    all_goals
      go_ret
      exact ⟨rfl, NetIs.same h0.out (HbW.out.trans (Below.mono (by repeat (first | exact HB2.out | exact Below.refl _ _ | refine Below.drew ?_ | refine below_new ?_ (Nat.le_refl _) _)) HbW.out.size))⟩
  · have hcut := Bool.eq_false_iff.2 hcut
    rw [hcut] at KS
    obtain ⟨A, c, rfl, hnc⟩ := own_slice hr
    by_cases hful : 2000 ≤ ps.length
    · have hv : putB C ps (x, y, s) = false := by unfold putB; simp; omega
      have hvl : putL C ps (x, y, s) = ps := by unfold putL; rw [hv]; rfl
      rw [hv, hvl]
      have d1 : decide (2000 ≤ ps.length) = true := by simpa using hful
      have d2 : (2000 : Int) ≤ (ps.length : Int) := by omega
      have KT : ∀ wx, Below W.heap.size W wx → wx.cell? ⟨g, 0, none⟩ = some (.slice A ps.length c) := fun wx hb => (hb.cell (p := ⟨g, 0, none⟩) hg).trans hc0
      have KT := Lib.hid KT
      have HbW := Lib.hid hbW
      clear hr hB hv hvl hcut h s3 hc0 hf0 hk2 hW1 hbW hful hnc
      go_enter Tryz.func70, Tryz.ntmps70
      go_wp2_with fail
      rw [← hW]
      clear hW
      go_region_held3 (fun wx => wx.cell? ⟨g, 1, none⟩ = some (.map (some r)) ∧ wx.cell? ⟨w.heap.size, 0, none⟩ = some (.int .i64 x) ∧ wx.cell? ⟨w.heap.size, 1, none⟩ = some (.int .i64 y) ∧ (Instr.lookup 99 (.map (some r)) (endsV (min x y) (max x y)) true).run Tryz.prog wx = .ok (.tuple #[.agg #[], .bool false]) wx)
        (first | exact KS.out _ (Below.refl _ _).drew | exact KS.out _ ((Below.refl _ _).drew.alloc (Nat.le_refl _) _) | exact KS.out _ HB2.out | exact KS.out _ (HB2.out.alloc HB2.out.size _))
        ((go_at_call 98; refine (Hend.out _ hx hy).mono ?_; rintro e w2 ⟨rfl, hb2⟩; have HB2 : Hid (Below W.heap.size W w2) := (Lib.hid (by first | exact below_undrew hb2 | exact ((Below.refl _ _).drew.alloc (Nat.le_refl _) _).trans (hb2.mono (by simp)))); clear hb2))
      all_goals
        first
        | have hc9 := KT.out _ (below_new HB2.out (Nat.le_refl _) (.cells #[] 139))
          have hd9 := KT.out _ HB2.out
          go_wp2_with fail
          go_ret
          exact ⟨rfl, NetIs.same h0.out (HbW.out.trans (Below.mono (by repeat (first | exact HB2.out | exact Below.refl _ _ | refine Below.drew ?_ | refine below_new ?_ (Nat.le_refl _) _)) HbW.out.size))⟩
    · have hv : putB C ps (x, y, s) = true := by unfold putB; simp [hcut]; omega
      have hvl : putL C ps (x, y, s) = ps ++ [(x, y, s)] := by unfold putL; rw [hv]; rfl
      rw [hv, hvl]
      have d1 : decide (2000 ≤ ps.length) = false := by simpa using hful
      have d2 : (ps.length : Int) < 2000 := by omega
      have hlen : ps.length < 2000 := by omega
      obtain ⟨i0, hi0, hz0, hz1, hz2⟩ := info_parts info_pk
      have KT : ∀ wx, Below W.heap.size W wx → wx.cell? ⟨g, 0, none⟩ = some (.slice A ps.length c) := fun wx hb => (hb.cell (p := ⟨g, 0, none⟩) hg).trans hc0
      have KF : ∀ wx, Below W.heap.size W wx → wx.frozen? ⟨g, 0, none⟩ = false := fun wx hb => (hb.frozen (p := ⟨g, 0, none⟩) hg).trans hf0
      have KP : ∀ wx, Below W.heap.size W wx → wx.cell? ⟨g, 0, none⟩ = some (.slice A ps.length c) ∧ wx.cell? ⟨w.heap.size, 0, none⟩ = some (.int .i64 x) ∧ wx.cell? ⟨w.heap.size, 1, none⟩ = some (.int .i64 y) ∧ wx.cell? ⟨w.heap.size, 2, none⟩ = some (.string s) := fun wx hb =>
        ⟨(hb.cell (p := ⟨g, 0, none⟩) hg).trans hc0, (KS.out wx hb).2.1, (KS.out wx hb).2.2.1, (hb.cell (p := ⟨w.heap.size, 2, none⟩) (by simp [hW1])).trans hk2⟩
      have KR : ∀ wx, Below W.heap.size W wx → wx.ownsRow 0 57 3 (.slice A ps.length c) ps.length (pkVs ps) := fun wx hb => own_below hr hb (fun q hq => (hr.lt q hq).2)
      have KE : ∀ wx g' c' w4, Below W.heap.size W wx → wx.grownBy w4 (Value.slice A ps.length c).ownBlock → w4.ownsRow 0 57 3 (.slice (some ⟨g', 0, none⟩) (ps.length + 1) c') (ps.length + 1) (pkVs ps ++ [.int .i64 x, .int .i64 y, .string s]) →
          ((Value.slice A ps.length c).ownBlock = some g' ∨ wx.heap.size ≤ g') → NetStep S g w (w4.setCell ⟨g, 0, none⟩ (.slice (some ⟨g', 0, none⟩) (ps.length + 1) c')) (ps ++ [(x, y, s)]) k C := fun wx g' c' w4 hb hgr hown hat =>
        netStep_row (hB.below hb hg) (own_below hr hb (fun q hq => (hr.lt q hq).2)) (map_chg HM.out (Chg.of_below (S := fun _ => False) hb) (fun h => h)) HD.out s1 s2 s3 (Chg.of_below (hbW.trans (hb.mono hbW.size))) hgr
          (by rw [List.length_append, pkVs_append]; exact hown) (fun b hbb => by
            obtain rfl : g' = b := by simpa [Value.ownBlock] using hbb
            exact hat)
      have KG : ∀ wx w4, Below W.heap.size W wx → wx.grownBy w4 (Value.slice A ps.length c).ownBlock → (w4.cell? ⟨g, 0, none⟩ = some (.slice A ps.length c) ∧ w4.cell? ⟨w.heap.size, 0, none⟩ = some (.int .i64 x) ∧ w4.cell? ⟨w.heap.size, 1, none⟩ = some (.int .i64 y) ∧ w4.cell? ⟨w.heap.size, 2, none⟩ = some (.string s)) ∧ w4.frozen? ⟨g, 0, none⟩ = false := fun wx w4 hb hgr => by
        have e1 := hgr.block g (Nat.lt_of_lt_of_le hg hb.size) (Ne.symm (own_ne_blk (own_below hr hb (fun q hq => (hr.lt q hq).2)) (hB.below hb hg) (by decide)))
        have e2 := hgr.block w.heap.size (by have := hb.size; omega) (fun e => Nat.lt_irrefl _ (hltw _ e.symm))
        obtain ⟨q1, q2, q3, q4⟩ := KP wx hb
        exact ⟨⟨(World.cell?_of_block (a := ⟨g, 0, none⟩) e1).trans q1, (World.cell?_of_block (a := ⟨w.heap.size, 0, none⟩) e2).trans q2, (World.cell?_of_block (a := ⟨w.heap.size, 1, none⟩) e2).trans q3, (World.cell?_of_block (a := ⟨w.heap.size, 2, none⟩) e2).trans q4⟩,
          (World.frozen?_of_block (a := ⟨g, 0, none⟩) e1).trans (KF wx hb)⟩
      have KG := Lib.hid KG
      have KT := Lib.hid KT; have KF := Lib.hid KF; have KP := Lib.hid KP; have KR := Lib.hid KR; have KE := Lib.hid KE
      have HbW := Lib.hid hbW
      clear hr hB hv hvl hcut s3 hltw hc0 hf0 hk2 hW1 hbW hful h
      go_enter Tryz.func70, Tryz.ntmps70
      go_wp2_with fail
      rw [← hW]
      clear hW
      go_region_held3 (fun wx => wx.cell? ⟨g, 1, none⟩ = some (.map (some r)) ∧ wx.cell? ⟨w.heap.size, 0, none⟩ = some (.int .i64 x) ∧ wx.cell? ⟨w.heap.size, 1, none⟩ = some (.int .i64 y) ∧ (Instr.lookup 99 (.map (some r)) (endsV (min x y) (max x y)) true).run Tryz.prog wx = .ok (.tuple #[.agg #[], .bool false]) wx)
        (first | exact KS.out _ (Below.refl _ _).drew | exact KS.out _ ((Below.refl _ _).drew.alloc (Nat.le_refl _) _) | exact KS.out _ HB2.out | exact KS.out _ (HB2.out.alloc HB2.out.size _))
        ((go_at_call 98; refine (Hend.out _ hx hy).mono ?_; rintro e w2 ⟨rfl, hb2⟩; have HB2 : Hid (Below W.heap.size W w2) := (Lib.hid (by first | exact below_undrew hb2 | exact ((Below.refl _ _).drew.alloc (Nat.le_refl _) _).trans (hb2.mono (by simp)))); clear hb2))
      all_goals
        have hc9 := KT.out _ (below_new HB2.out (Nat.le_refl _) (.cells #[] 139))
        have hd9 := KT.out _ HB2.out
        go_wp2_with fail
        refine wp_world (B := W.heap.size) (W := W) ?_ (by repeat (first | exact HB2.out | exact Below.refl _ _ | refine Below.drew ?_ | refine below_new ?_ (Nat.le_refl _) _))
        intro X hbX
        have HbX := Lib.hid hbX
        clear hc9 hd9 hbX HB2
        obtain ⟨q1, q2, q3, q4⟩ := KP.out X HbX.out
        have qg : g < X.heap.size := Nat.lt_of_lt_of_le hg HbX.out.size
        have qw : w.heap.size < X.heap.size := Nat.lt_of_lt_of_le hgW HbX.out.size
        go_region_law (
          (refine step_append_lies _ (by rfl) _ _ _ (by rfl) 0 57 i0 _ 3 32 Tryz.underlying100 hi0 hz0 hz1 hz2 rfl (by omega) _ _ _ (by rfl) (KR.out _ (HbX.out.alloc HbX.out.size _).drew) ⟨X.heap.size, 0, none⟩ 1 1 [.int .i64 x, .int .i64 y, .string s] (by rfl) (by rfl) (World.news_of_block (cs := #[.int .i64 x, .int .i64 y, .string s]) (t := 57) (fr := (0, 0)) (heap_alloc_new X _)) (by simp [Value.oneCell']) (by omega) (by simp only [maxLen]; omega) (by omega) (Nat.zero_le _) (X.heap.size + 1) (by simp) ?_; intro g' c' w4 hown4 hgr4 hat4 hlt4; have HO4 := Lib.hid hown4; have HA4 := Lib.hid hat4; have hG4 := KG.out _ _ (HbX.out.alloc HbX.out.size _).drew hgr4; have hf4 := hG4.2; obtain ⟨q5, q6, q7, q8⟩ := hG4.1; clear hown4 hat4 hG4 q1 q2 q3 q4))
        all_goals
          go_wp2_with fail
          go_ret
          exact ⟨rfl, KE.out _ g' c' w4 (HbX.out.alloc HbX.out.size _).drew hgr4 HO4.out (HA4.out.imp id (fun e => by rw [e]; simp))⟩
end Go.Proofs.YtadhboioaacaeaaGreat

/- slices.Delete of one packet. -/
namespace Go.Proofs.YtadhboioaacaeaaGreat
open Go.RowKit
set_option maxHeartbeats 2000000
set_option maxRecDepth 100000
set_option linter.unusedVariables false

theorem pk_zero (w : World) : (zeroValue 57).run Tryz.prog w = .ok (.agg #[.int .i64 0, .int .i64 0, .string ByteArray.empty]) w := by kernel_rfl

theorem delete_any (g n cap j : Nat) (ps : List Pk) (w : World) (hown : w.ownsRow 0 57 3 (.slice (some ⟨g, 0, none⟩) n cap) n (pkVs ps)) (hj : j < n) (hn : n ≤ 1000000) (hcap : cap ≤ 9223372036854775807) :
    Calls Tryz.prog 73 #[.slice (some ⟨g, 0, none⟩) n cap, .int .i64 (j : Int), .int .i64 ((j : Int) + 1)] w fun e w' =>
      e = .returned (.slice (some ⟨g, 0, none⟩) (n - 1) cap) ∧ w'.ownsRow 0 57 3 (.slice (some ⟨g, 0, none⟩) (n - 1) cap) (n - 1) (pkVs (ps.take j ++ ps.drop (j + 1))) ∧ w.grownBy w' (some g) := by
  obtain ⟨i0, hi0, hz0, hz1, hz2⟩ := info_parts info_pk
  have hlen : ps.length = n := by have := hown.1; rw [pkVs_length] at this; omega
  have hnc := own_cap hown (by omega)
  obtain ⟨d, rfl⟩ : ∃ d, n = j + 1 + d := ⟨n - (j + 1), by omega⟩
  have hcell := hown.cellAt
  have hfz := hown.frozenAt
  obtain ⟨news, hnews⟩ : ∃ news, news = pkVs (ps.drop (j + 1)) := ⟨_, rfl⟩
  have hnl : news.length = d * 3 := by rw [hnews, pkVs_length, List.length_drop]; omega
  obtain ⟨A, hA, hsrc⟩ : ∃ A : Addr, (if cap = j + 1 then some (⟨g, 0, none⟩ : Addr) else some ⟨g, (j + 1) * 3, none⟩) = some A ∧ ∀ t u, news[t]? = some u → w.drew.cell? (A.add t) = some u := by
    by_cases h : cap = j + 1
    · refine ⟨⟨g, 0, none⟩, by simp [h], fun t u hu => ?_⟩
      have h0 : news.length = 0 := by rw [hnl]; omega
      rw [List.length_eq_zero_iff.1 h0] at hu
      simp at hu
    · refine ⟨⟨g, (j + 1) * 3, none⟩, by simp [h], fun t u hu => ?_⟩
      have ht : t < d * 3 := by
        have := (List.getElem?_eq_some_iff.1 hu).1
        rwa [hnl] at this
      rw [Addr.add_lit]
      show w.cell? _ = _
      rw [hcell _ (by omega), ← hu, hnews, ← pkVs_drop, List.getElem?_drop]
  have s1 : news.length = d * 3 := hnl
  have s2 : ∀ u ∈ news, u.oneCell' = true := by rw [hnews]; exact pkVs_one _
  have s3 : ∀ t, t < news.length → (w.drew.cell? ⟨g, 0 + j * 3 + t, none⟩).isSome = true ∧ w.drew.frozen? ⟨g, 0 + j * 3 + t, none⟩ = false := by
    intro t ht
    refine ⟨?_, hfz _⟩
    show (w.cell? _).isSome = true
    have hl : j * 3 + t < (pkVs ps).length := by rw [pkVs_length]; omega
    rw [Nat.zero_add, hcell _ (by omega), List.getElem?_eq_getElem hl]
    rfl
  obtain ⟨W1, hW1⟩ : ∃ W1, W1 = w.drew.setCells g (0 + j * 3) news := ⟨_, rfl⟩
  have ho1 := own_cells news (pkVs ps) (j * 3) w.drew (own_drew hown) (w := w)
  rw [show j * 3 = 0 + j * 3 from by omega, ← hW1] at ho1
  obtain ⟨ho1, hg1⟩ := ho1
  have hcl : ∀ ty c, (Builtin.clear_ #[100] ty #[.slice (some ⟨g, (j + d) * 3, none⟩) 1 c]).run Tryz.prog W1 = .ok (.tuple #[]) (W1.setCells g ((j + d) * 3) [.int .i64 0, .int .i64 0, .string ByteArray.empty]) := fun ty c =>
    run_clear_pk W1 _ _ ty _ Tryz.underlying100 pk_zero [.int .i64 0, .int .i64 0, .string ByteArray.empty] rfl (by simp) (by simp [Value.oneCell']) g ((j + d) * 3) c
      (fun t ht => by
        simp at ht
        have hl : (j + d) * 3 + t < (setL (pkVs ps) (0 + j * 3) news).length := by rw [setL_length, pkVs_length]; omega
        rw [ho1.cellAt _ (by omega), List.getElem?_eq_getElem hl]; rfl) (fun t ht => ho1.frozenAt _)
  obtain ⟨W2, hW2⟩ : ∃ W2, W2 = W1.setCells g ((j + d) * 3) [.int .i64 0, .int .i64 0, .string ByteArray.empty] := ⟨_, rfl⟩
  have ho2 := own_cells [.int .i64 0, .int .i64 0, .string ByteArray.empty] _ ((j + d) * 3) W1 ho1 (w := w)
  rw [← hW2] at ho2
  obtain ⟨ho2, hg2⟩ := ho2
  have ho3 := own_short (m := j + d) ho2 (by omega)
  have hxs : (setL (setL (pkVs ps) (0 + j * 3) news) ((j + d) * 3) [.int .i64 0, .int .i64 0, .string ByteArray.empty]).take ((j + d) * 3) = pkVs (ps.take j ++ ps.drop (j + 1)) := by
    have e1 : setL (pkVs ps) (0 + j * 3) news = pkVs (ps.take j ++ ps.drop (j + 1)) ++ (pkVs ps).drop ((j + d) * 3) := by
      rw [setL_eq _ _ _ (by rw [pkVs_length, hnl]; omega), Nat.zero_add, pkVs_append, pkVs_take, hnews, pkVs_length, List.length_drop, show j * 3 + (ps.length - (j + 1)) * 3 = (j + d) * 3 from by omega]
    have e2 : (pkVs (ps.take j ++ ps.drop (j + 1))).length = (j + d) * 3 := by rw [pkVs_length, List.length_append, List.length_take, List.length_drop]; omega
    rw [e1, setL_eq _ _ _ (by rw [List.length_append, e2, List.length_drop, pkVs_length]; simp; omega), List.append_assoc, List.take_append_of_le_length (by rw [List.length_take, List.length_append, e2, List.length_drop]; omega), List.take_take, Nat.min_self, List.take_left' e2]
  rw [hxs] at ho3
  have hgg : w.grownBy W2 (some g) := ⟨hg2.os.trans hg1.os, hg2.tape.trans hg1.tape, hg2.output.trans hg1.output, Nat.le_trans hg1.size hg2.size, fun k hk hn => (hg2.block k (Nat.lt_of_lt_of_le hk hg1.size) hn).trans (hg1.block k hk hn)⟩
  have hcl : ∀ ty c, (Builtin.clear_ #[100] ty #[.slice (some ⟨g, (j + d) * 3, none⟩) (j + 1 + d - (j + d)) c]).run Tryz.prog W1 = .ok (.tuple #[]) W2 := fun ty c => by
    rw [show j + 1 + d - (j + d) = 1 from by omega, hcl ty c, ← hW2]
  have HO := Lib.hid ho3
  have S1 := Lib.hid s1; have S2 := Lib.hid s2; have S3 := Lib.hid s3; have HS := Lib.hid hsrc; have HW1 := Lib.hid hW1
  have dj : ((j : Int) == (j : Int) + 1) = false := by rw [beq_eq_false_iff_ne]; omega
  have b1 : (0 : Int) ≤ (j : Int) := by omega
  have b2 : (j : Int) ≤ (cap : Int) := by omega
  have b3 : (j : Int) + 1 ≤ (j : Int) + 1 + (d : Int) := by omega
  have b4 : (0 : Int) ≤ (j : Int) + 1 := by omega
  clear s1 s2 s3 hsrc hW1 ho1 ho2 ho3 hxs hg1 hg2 hW2 hnl hnews hcell hfz hown hlen
  rw [show j + 1 + d - 1 = j + d from by omega]
  go_enter Tryz.func73, Tryz.ntmps73
  go_wp2_with fail
  go_region_law (refine step_append_room rfl (.tmp 22) (.tmp 25) 100 rfl 57 i0 3 Tryz.underlying100 hi0 hz1 g 0 j cap (by simp [Act.eval, Act.put]) A d (cap - (j + 1)) news (by simp [Act.eval, Act.put]) S1.out HS.out S2.out (by omega) S3.out ?_; rw [← HW1.out])
  all_goals
    go_wp2_with fail
    go_ret
    exact ⟨rfl, HO.out, hgg⟩
end Go.Proofs.YtadhboioaacaeaaGreat

/- The net: is, Len, Peek, Clear, of a nil net too. -/
namespace Go.Proofs.YtadhboioaacaeaaGreat
open Go.RowKit
set_option maxHeartbeats 2000000
set_option maxRecDepth 100000
set_option linter.unusedVariables false

/-- is there a packet at a place? -/
def hasB (ps : List Pk) (j : Int) : Bool := decide (0 ≤ j ∧ j < (ps.length : Int))
def getP (ps : List Pk) (j : Int) : Pk := if hasB ps j then ps[j.toNat]?.getD (0, 0, ByteArray.empty) else (0, 0, ByteArray.empty)
theorem hasB_yes {ps : List Pk} {j : Nat} (h : j < ps.length) : hasB ps (j : Int) = true := by unfold hasB; simp; omega
theorem hasB_nat {ps : List Pk} {j : Int} (h : hasB ps j = true) : ∃ n : Nat, j = (n : Int) ∧ n < ps.length := by
  unfold hasB at h
  simp at h
  exact ⟨j.toNat, by omega, by omega⟩
theorem getP_yes {ps : List Pk} {j : Nat} {p : Pk} (h : ps[j]? = some p) : getP ps (j : Int) = p := by
  unfold getP
  rw [if_pos (hasB_yes (List.getElem?_eq_some_iff.1 h).1), Int.toNat_natCast, h]; rfl

theorem is_nil (j : Int) (w : World) : Calls Tryz.prog 71 #[.pointer none, .int .i64 j] w fun e w' => e = .returned (.bool false) ∧ w = w' := by
  go_enter Tryz.func71, Tryz.ntmps71
  go_wp2_with fail
  go_ret
  exact ⟨rfl, rfl⟩
theorem is_any (S : Nat → Prop) (g k : Nat) (ps : List Pk) (C : Int → Int → Bool) (j : Int) (w : World) (h : NetIs w S g ps k C) :
    Calls Tryz.prog 71 #[.pointer (some ⟨g, 0, none⟩), .int .i64 j] w fun e w' => e = .returned (.bool (hasB ps j)) ∧ w = w' := by
  obtain ⟨v, r, D, hB, hr, _⟩ := h
  have hc0 := hB.cell 0
  obtain ⟨A, c, rfl, hnc⟩ := own_slice hr
  simp at hc0
  clear hB hr
  by_cases h1 : 0 ≤ j
  · by_cases h2 : j < (ps.length : Int)
    · have hv : hasB ps j = true := by unfold hasB; simp; omega
      rw [hv]
      have d1 : decide (0 ≤ j) = true := by simpa using h1
      have d2 : decide (j < (ps.length : Int)) = true := by simpa using h2
      clear hv
      go_enter Tryz.func71, Tryz.ntmps71
      go_wp2_with fail
      go_ret
      exact ⟨rfl, rfl⟩
    · have hv : hasB ps j = false := by unfold hasB; simp; omega
      rw [hv]
      have d1 : decide (0 ≤ j) = true := by simpa using h1
      have d2 : decide (j < (ps.length : Int)) = false := by simpa using h2
      clear hv
      go_enter Tryz.func71, Tryz.ntmps71
      go_wp2_with fail
      go_ret
      exact ⟨rfl, rfl⟩
  · have hv : hasB ps j = false := by unfold hasB; simp; omega
    rw [hv]
    have d1 : decide (0 ≤ j) = false := by simpa using h1
    clear hv
    go_enter Tryz.func71, Tryz.ntmps71
    go_wp2_with fail
    go_ret
    exact ⟨rfl, rfl⟩

theorem len_nil (w : World) : Calls Tryz.prog 22 #[.pointer none] w fun e w' => e = .returned (.int .i64 0) ∧ w = w' := by
  go_enter Tryz.func22, Tryz.ntmps22
  go_wp2_with fail
  go_ret
  exact ⟨rfl, rfl⟩
theorem len_any (S : Nat → Prop) (g k : Nat) (ps : List Pk) (C : Int → Int → Bool) (w : World) (h : NetIs w S g ps k C) :
    Calls Tryz.prog 22 #[.pointer (some ⟨g, 0, none⟩)] w fun e w' => e = .returned (.int .i64 (ps.length : Int)) ∧ w = w' := by
  obtain ⟨v, r, D, hB, hr, _⟩ := h
  have hc0 := hB.cell 0
  obtain ⟨A, c, rfl, hnc⟩ := own_slice hr
  simp at hc0
  clear hB hr
  go_enter Tryz.func22, Tryz.ntmps22
  go_wp2_with fail
  go_ret
  exact ⟨rfl, rfl⟩

theorem peek_nil (j : Int) (w : World) : Calls Tryz.prog 72 #[.pointer none, .int .i64 j] w fun e w' => e = .returned (.tuple #[pkA (0, 0, ByteArray.empty), .bool false]) ∧ Below w.heap.size w w' := by
  go_enter Tryz.func72, Tryz.ntmps72
  go_wp2_with fail
  refine (is_nil j _).mono ?_
  rintro e w1 ⟨rfl, rfl⟩
  go_wp2_with fail
  exact bodyPost_ret (v := .tuple #[pkA (0, 0, ByteArray.empty), .bool false]) (by simp [results, Tryz.results72, go_sem, pkA]; rfl) rfl ⟨rfl, (Below.refl _ _).alloc (Nat.le_refl _) _⟩
theorem peek_any (S : Nat → Prop) (g k : Nat) (ps : List Pk) (C : Int → Int → Bool) (j : Int) (w : World) (h : NetIs w S g ps k C) (hlen : ps.length ≤ 1000000) :
    Calls Tryz.prog 72 #[.pointer (some ⟨g, 0, none⟩), .int .i64 j] w fun e w' => e = .returned (.tuple #[pkA (getP ps j), .bool (hasB ps j)]) ∧ Below w.heap.size w w' := by
  have hi := is_any S g k ps C j (w.alloc (.cells #[.int .i64 0, .int .i64 0, .string ByteArray.empty] 57)) (h.alloc _)
  cases hb : hasB ps j with
  | false =>
    rw [hb] at hi
    have hv : getP ps j = (0, 0, ByteArray.empty) := by unfold getP; rw [hb]; rfl
    rw [hv]
    have Hi := Lib.hid hi
    clear h hv hi hb
    go_enter Tryz.func72, Tryz.ntmps72
    go_wp2_with fail
    refine Hi.out.mono ?_
    rintro e w1 ⟨rfl, rfl⟩
    go_wp2_with fail
    exact bodyPost_ret (v := .tuple #[pkA (0, 0, ByteArray.empty), .bool false]) (by simp [results, Tryz.results72, go_sem, pkA]; rfl) rfl ⟨rfl, (Below.refl _ _).alloc (Nat.le_refl _) _⟩
  | true =>
    rw [hb] at hi
    obtain ⟨n, rfl, hn⟩ := hasB_nat hb
    obtain ⟨p, hp⟩ : ∃ p, ps[n]? = some p := ⟨_, List.getElem?_eq_getElem hn⟩
    rw [getP_yes hp]
    obtain ⟨x, y, s⟩ := p
    obtain ⟨v, r, D, hB, hr, _⟩ := id h
    have hg := hB.lt
    have hc0 := hB.cell 0
    simp at hc0
    obtain ⟨q, c, rfl, _, hq⟩ := hr.form (by omega)
    have k0 := (hr.cellAt (n * 3) (by omega)).trans (pkVs_get ps n 0 _ hp (by omega))
    have k1 := (hr.cellAt (n * 3 + 1) (by omega)).trans (pkVs_get ps n 1 _ hp (by omega))
    have k2 := (hr.cellAt (n * 3 + 2) (by omega)).trans (pkVs_get ps n 2 _ hp (by omega))
    simp [pkC] at k0 k1 k2
    have Hi := Lib.hid hi
    have hn0 : (0 : Int) ≤ (n : Int) := by omega
    have hn1 : (n : Int) < (ps.length : Int) := by omega
    clear h hi hb hp hB hr
    go_enter Tryz.func72, Tryz.ntmps72
    go_wp2_with fail
    refine Hi.out.mono ?_
    rintro e w1 ⟨rfl, rfl⟩
    go_wp2_with fail
    exact bodyPost_ret (v := .tuple #[pkA (x, y, s), .bool true]) (by simp [results, Tryz.results72, go_sem, pkA]) rfl ⟨rfl, (Below.refl _ _).alloc (Nat.le_refl _) _⟩
end Go.Proofs.YtadhboioaacaeaaGreat

/- The net: Take, Drop, of a nil net too. -/
namespace Go.Proofs.YtadhboioaacaeaaGreat
open Go.RowKit
set_option maxHeartbeats 2000000
set_option maxRecDepth 100000
set_option linter.unusedVariables false

def dropP (ps : List Pk) (j : Int) : List Pk := if hasB ps j then ps.take j.toNat ++ ps.drop (j.toNat + 1) else ps

theorem netIs_row {S : Nat → Prop} {g k n r : Nat} {xs : List Value} {ps : List Pk} {C : Int → Int → Bool} {X w4 : World} {v v' : Value} {D : DataW Unit}
    (hB : BlkIs X g 102 #[v, .map (some r)]) (hr : X.ownsRow 0 57 3 v n xs) (hm : X.ownsMap Tryz.prog 141 (unitElem (H := Unit)) r k D) (hD : CutD D C) (s1 : S g) (s2 : S r)
    (hg : X.grownBy w4 v.ownBlock) (hown : w4.ownsRow 0 57 3 v' ps.length (pkVs ps)) (s4 : ∀ x, v'.ownBlock = some x → S x) : NetIs (w4.setCell ⟨g, 0, none⟩ v') S g ps k C := by
  have hne := own_ne_blk hr hB (by decide)
  have hB4 := hB.grown hg (Ne.symm hne)
  have hne4 := own_ne_blk hown hB4 (by decide)
  have hm4 := hm.kept hg (Ne.symm (own_ne_map hm hr))
  exact ⟨v', r, D, hB4.put 0 v', own_far hown hne4 _, hm4.setCell (Ne.symm (blk_ne_map hm hB)) _, hD, s1, s2, s4⟩

/-- three cells of a block set -/
def set3 (w : World) (g : Nat) (x y z : Value) : World := ((w.setCell ⟨g, 0, none⟩ x).setCell ⟨g, 1, none⟩ y).setCell ⟨g, 2, none⟩ z
theorem set3_blk {w : World} {g : Nat} {t : TypeId} {a b c : Value} (h : BlkIs w g t #[a, b, c]) (x y z : Value) : BlkIs (set3 w g x y z) g t #[x, y, z] := by
  have := ((h.put 0 x).put 1 y).put 2 z
  simpa [set3] using this
theorem set3_chg {S : Nat → Prop} {w w' : World} {g : Nat} (h : Chg S w w') (hg : g < w.heap.size → S g) (x y z : Value) : Chg S w (set3 w' g x y z) := ((h.set (a := ⟨g, 0, none⟩) hg x).set (a := ⟨g, 1, none⟩) hg y).set (a := ⟨g, 2, none⟩) hg z
theorem set3_below {B : Nat} {w w' : World} {g : Nat} (h : Below B w w') (hg : B ≤ g) (x y z : Value) : Below B w (set3 w' g x y z) := ((h.setCell (p := ⟨g, 0, none⟩) hg x).setCell (p := ⟨g, 1, none⟩) hg y).setCell (p := ⟨g, 2, none⟩) hg z
/-- a packet that a call answers in a block of its own -/
def zero3 (w : World) : World := w.alloc (.cells #[.int .i64 0, .int .i64 0, .string ByteArray.empty] 57)
theorem zero3_blk {w w1 : World} (hb : Below (zero3 w).heap.size (zero3 w) w1) : BlkIs w1 w.heap.size 57 #[.int .i64 0, .int .i64 0, .string ByteArray.empty] :=
  (BlkIs.new w _ _).below hb (by simp [zero3])

theorem take_nil (j : Int) (w : World) : Calls Tryz.prog 20 #[.pointer none, .int .i64 j] w fun e w' => e = .returned (.tuple #[pkA (0, 0, ByteArray.empty), .bool false]) ∧ Below w.heap.size w w' := by
  have hp := peek_nil j (w.alloc (.cells #[.int .i64 0, .int .i64 0, .string ByteArray.empty] 57))
  have Hp := Lib.hid hp; clear hp
  go_enter Tryz.func20, Tryz.ntmps20
  go_wp2_with fail
  unfold pkA at Hp
  refine Hp.out.mono ?_
  rintro e w1 ⟨rfl, hb1⟩
  have hlt : w.heap.size < w1.heap.size := Nat.lt_of_lt_of_le (by simp) hb1.size
  have hc : ∀ i, w1.cell? ⟨w.heap.size, i, none⟩ = (#[.int .i64 0, .int .i64 0, .string ByteArray.empty] : Array Value)[i]? := fun i => (hb1.cell (p := ⟨w.heap.size, i, none⟩) (by simp)).trans ((BlkIs.new w 57 #[.int .i64 0, .int .i64 0, .string ByteArray.empty]).cell i)
  have hf : ∀ i, w1.frozen? ⟨w.heap.size, i, none⟩ = false := fun i => (hb1.frozen (p := ⟨w.heap.size, i, none⟩) (by simp)).trans ((BlkIs.new w 57 #[.int .i64 0, .int .i64 0, .string ByteArray.empty]).free i)
  have Hb1 := Lib.hid hb1; clear hb1
  go_wp2_with fail
  obtain ⟨W, hW⟩ : ∃ W, W = (set3 w1 w.heap.size (.int .i64 0) (.int .i64 0) (.string ByteArray.empty)).alloc (.cells #[.int .i64 0, .int .i64 0, .string ByteArray.empty] 57) := ⟨_, rfl⟩
  have hBW := (set3_blk (zero3_blk (by exact Hb1.out)) (.int .i64 0) (.int .i64 0) (.string ByteArray.empty)).alloc (.cells #[.int .i64 0, .int .i64 0, .string ByteArray.empty] 57)
  have hbel : Below w.heap.size w W := by
    rw [hW]
    refine below_new (set3_below ?_ (Nat.le_refl _) _ _ _) (Nat.le_refl _) _
    exact ((Below.refl _ _).alloc (Nat.le_refl _) _).trans (Hb1.out.mono (by simp))
  rw [← hW] at hBW
  unfold set3 at hW
  rw [← hW]
  have c0 := hBW.cell 0; have c1 := hBW.cell 1; have c2 := hBW.cell 2
  simp at c0 c1 c2
  clear hW
  exact bodyPost_ret (v := .tuple #[pkA (0, 0, ByteArray.empty), .bool false]) (by simp [results, Tryz.results20, go_sem, pkA, c0, c1, c2]; try rfl) rfl ⟨rfl, hbel⟩

/-- what Take does to the net -/
theorem netTake_any (S : Nat → Prop) (g k : Nat) (ps : List Pk) (C : Int → Int → Bool) (j : Int) (w : World) (h : NetIs w S g ps k C) (hlen : ps.length ≤ 1000000) :
    Calls Tryz.prog 20 #[.pointer (some ⟨g, 0, none⟩), .int .i64 j] w fun e w' => e = .returned (.tuple #[pkA (getP ps j), .bool (hasB ps j)]) ∧ NetStep S g w w' (dropP ps j) k C := by
  have hp := peek_any S g k ps C j (zero3 w) (h.alloc _) hlen
  have hsh := h.shrink
  cases hb : hasB ps j with
  | false =>
    have hd : dropP ps j = ps := by unfold dropP; rw [hb]; rfl
    have hg : getP ps j = (0, 0, ByteArray.empty) := by unfold getP; rw [hb]; rfl
    rw [hd, hg]
    rw [hb, hg] at hp
    unfold pkA zero3 at hp
    have Hp := Lib.hid hp; have Hh := Lib.hid h
    clear hp h hd hb hg hsh
    go_enter Tryz.func20, Tryz.ntmps20
    go_wp2_with fail
    refine Hp.out.mono ?_
    rintro e w1 ⟨rfl, hb1⟩
    have hlt : w.heap.size < w1.heap.size := Nat.lt_of_lt_of_le (by simp) hb1.size
    have hc : ∀ i, w1.cell? ⟨w.heap.size, i, none⟩ = (#[.int .i64 0, .int .i64 0, .string ByteArray.empty] : Array Value)[i]? := fun i => (hb1.cell (p := ⟨w.heap.size, i, none⟩) (by simp)).trans ((BlkIs.new w 57 #[.int .i64 0, .int .i64 0, .string ByteArray.empty]).cell i)
    have hf : ∀ i, w1.frozen? ⟨w.heap.size, i, none⟩ = false := fun i => (hb1.frozen (p := ⟨w.heap.size, i, none⟩) (by simp)).trans ((BlkIs.new w 57 #[.int .i64 0, .int .i64 0, .string ByteArray.empty]).free i)
    have Hb1 := Lib.hid hb1; clear hb1
    go_wp2_with fail
    obtain ⟨W, hW⟩ : ∃ W, W = (set3 w1 w.heap.size (.int .i64 0) (.int .i64 0) (.string ByteArray.empty)).alloc (.cells #[.int .i64 0, .int .i64 0, .string ByteArray.empty] 57) := ⟨_, rfl⟩
    have hBW := (set3_blk (zero3_blk (by exact Hb1.out)) (.int .i64 0) (.int .i64 0) (.string ByteArray.empty)).alloc (.cells #[.int .i64 0, .int .i64 0, .string ByteArray.empty] 57)
    have hbel : Below w.heap.size w W := by
      rw [hW]
      refine below_new (set3_below ?_ (Nat.le_refl _) _ _ _) (Nat.le_refl _) _
      exact ((Below.refl _ _).alloc (Nat.le_refl _) _).trans (Hb1.out.mono (by simp))
    rw [← hW] at hBW
    unfold set3 at hW
    rw [← hW]
    have c0 := hBW.cell 0; have c1 := hBW.cell 1; have c2 := hBW.cell 2
    simp at c0 c1 c2
    clear hW
    exact bodyPost_ret (v := .tuple #[pkA (0, 0, ByteArray.empty), .bool false]) (by simp [results, Tryz.results20, go_sem, pkA, c0, c1, c2]; try rfl) rfl ⟨rfl, NetIs.same Hh.out hbel⟩
  | true =>
    obtain ⟨n, rfl, hn⟩ := hasB_nat hb
    obtain ⟨p, hpn⟩ : ∃ p, ps[n]? = some p := ⟨_, List.getElem?_eq_getElem hn⟩
    have hd : dropP ps (n : Int) = ps.take n ++ ps.drop (n + 1) := by unfold dropP; rw [hb]; rfl
    have hgp := getP_yes hpn
    rw [hd, hgp]
    rw [hb, hgp] at hp
    obtain ⟨x, y, s⟩ := p
    unfold pkA zero3 at hp
    obtain ⟨v, r, D, hB, hr, hm, hD, s1, s2, s3⟩ := id hsh
    obtain ⟨q, c, rfl, _, hq⟩ := hr.form (by omega)
    have hnc := own_cap hr (by omega)
    have hcm : c ≤ maxLen := by
      rcases hr.2 with ⟨h', _⟩ | ⟨g', cap', cur, h', _, hg, _, hcm, _⟩
      · simp at h'
      · injection h' with _ _ h'; omega
    have hgw := hB.lt
    have Hp := Lib.hid hp; have Hh := Lib.hid h
    have HB := Lib.hid hB; have HR := Lib.hid hr; have HM := Lib.hid hm; have HD := Lib.hid hD; have S3 := Lib.hid s3
    simp only [maxLen] at hcm
    clear hp h hd hb hgp hsh hB hr hm hD s3 hpn
    go_enter Tryz.func20, Tryz.ntmps20
    go_wp2_with fail
    refine Hp.out.mono ?_
    rintro e w1 ⟨rfl, hb1⟩
    have hlt : w.heap.size < w1.heap.size := Nat.lt_of_lt_of_le (by simp) hb1.size
    have hz1 := zero3_blk (w := w) (by exact hb1)
    have hbw1 : Below w.heap.size w w1 := ((Below.refl _ _).alloc (Nat.le_refl _) _).trans (hb1.mono (by simp))
    obtain ⟨W2, hW2⟩ : ∃ W2, W2 = w1.alloc (.cells #[.int .i64 x, .int .i64 y, .string s] 57) := ⟨_, rfl⟩
    have hbW2 : Below w.heap.size w W2 := by rw [hW2]; exact below_new hbw1 (Nat.le_refl _) _
    have hB1 := HB.out.below hbw1 hgw
    have hc0 := hB1.cell 0
    simp at hc0
    have hg1 : g < w1.heap.size := hB1.lt
    have HB2 := Lib.hid (HB.out.below hbW2 hgw)
    have HW2 := Lib.hid hW2
    have HR2 := Lib.hid (own_below HR.out hbW2 (fun b hb => (HR.out.lt b hb).2))
    have HM2 := Lib.hid (map_chg HM.out (Chg.of_below (S := fun _ => False) hbW2) (fun h => h))
    have Hz2 := Lib.hid (show BlkIs W2 w.heap.size 57 #[.int .i64 0, .int .i64 0, .string ByteArray.empty] by rw [hW2]; exact hz1.alloc _)
    have Hp2 := Lib.hid (show BlkIs W2 w1.heap.size 57 #[.int .i64 x, .int .i64 y, .string s] by rw [hW2]; exact BlkIs.new _ _ _)
    have HbW2 := Lib.hid hbW2
    clear hB1 hbW2 hz1 hb1 hbw1 hW2
    go_wp2_with fail
    rw [← HW2.out]
    refine (delete_any q ps.length c n ps W2 HR2.out hn hlen hcm).mono ?_
    rintro e w3 ⟨rfl, hown3, hgr3⟩
    have hqg : q ≠ g := by have := own_ne_blk HR2.out HB2.out (by decide); simpa [Value.ownBlock] using this
    have hqw : q ≠ w.heap.size := by omega
    have hqw1 : q ≠ w1.heap.size := by omega
    have hB3 := HB2.out.grown hgr3 (by simpa using Ne.symm hqg)
    have hz3 := Hz2.out.grown hgr3 (by simpa using Ne.symm hqw)
    have hp3 := Hp2.out.grown hgr3 (by simpa using Ne.symm hqw1)
    have cg := hB3.cell 0; have fg := hB3.free 0
    have cz0 := hz3.cell 0; have cz1 := hz3.cell 1; have cz2 := hz3.cell 2; have fz := hz3.free
    have cp0 := hp3.cell 0; have cp1 := hp3.cell 1; have cp2 := hp3.cell 2
    simp at cg cz0 cz1 cz2 cp0 cp1 cp2
    have hgz : g ≠ w.heap.size := by omega
    have hgp : g ≠ w1.heap.size := by omega
    have Hown3 := Lib.hid hown3; have Hgr3 := Lib.hid hgr3; have HB3 := Lib.hid hB3; have Hz3 := Lib.hid hz3
    clear hown3 hgr3 hB3 hz3 hp3 hc0
    go_wp2_with fail
    obtain ⟨W4, hW4⟩ : ∃ W4, W4 = w3.setCell ⟨g, 0, none⟩ (.slice (some ⟨q, 0, none⟩) (ps.length - 1) c) := ⟨_, rfl⟩
    obtain ⟨W, hW⟩ : ∃ W, W = set3 W4 w.heap.size (.int .i64 x) (.int .i64 y) (.string s) := ⟨_, rfl⟩
    have hz4 : BlkIs W4 w.heap.size 57 #[.int .i64 0, .int .i64 0, .string ByteArray.empty] := by rw [hW4]; exact Hz3.out.far (p := ⟨g, 0, none⟩) (Ne.symm hgz) _
    have hBW := set3_blk hz4 (.int .i64 x) (.int .i64 y) (.string s)
    have hnet : NetIs W4 (fun b => S b ∧ b < w.heap.size) g (ps.take n ++ ps.drop (n + 1)) k C := by
      rw [hW4]
      refine netIs_row HB2.out HR2.out HM2.out HD.out s1 s2 Hgr3.out ?_ (fun b hb => S3.out b hb)
      have e : (ps.take n ++ ps.drop (n + 1)).length = ps.length - 1 := by rw [List.length_append, List.length_take, List.length_drop]; omega
      rw [e]
      exact Hown3.out
    have hnetW : NetIs W (fun b => S b ∧ b < w.heap.size) g (ps.take n ++ ps.drop (n + 1)) k C := by
      rw [hW]
      refine hnet.chg (T := fun b => b = w.heap.size) (set3_chg (Chg.refl (fun b => b = w.heap.size) W4) (fun _ => (rfl : w.heap.size = w.heap.size)) _ _ _) (fun b _ hb e => ?_)
      rw [e] at hb
      exact Nat.lt_irrefl _ hb.2
    have hchg : Chg S w W := by
      rw [hW]
      refine set3_chg ?_ (fun h => absurd h (Nat.lt_irrefl _)) _ _ _
      rw [hW4]
      exact ((Chg.of_below HbW2.out).grown Hgr3.out (fun b hb _ => (S3.out b hb).1)).set (fun _ => s1.1) _
    have hfin : NetStep S g w W (ps.take n ++ ps.drop (n + 1)) k C := ⟨_, hnetW, hchg, fun b hb => .inl hb.1⟩
    rw [← hW] at hBW
    unfold set3 at hW
    rw [← hW4, ← hW]
    have c0 := hBW.cell 0; have c1 := hBW.cell 1; have c2 := hBW.cell 2
    simp at c0 c1 c2
    exact bodyPost_ret (v := .tuple #[pkA (x, y, s), .bool true]) (by clear hW hW4; simp [results, Tryz.results20, go_sem, pkA, c0, c1, c2]) rfl ⟨rfl, hfin⟩

theorem netStep_alloc {S : Nat → Prop} {g k : Nat} {ps : List Pk} {C : Int → Int → Bool} {w w' : World} (h : NetStep S g w w' ps k C) (o : Obj) : NetStep S g w (w'.alloc o) ps k C := by
  obtain ⟨S', h1, h2, h3⟩ := h
  exact ⟨S', h1.alloc o, h2.alloc o, h3⟩
end Go.Proofs.YtadhboioaacaeaaGreat

/- The net: Double, Swap, of a nil net too. -/
namespace Go.Proofs.YtadhboioaacaeaaGreat
open Go.RowKit
set_option maxHeartbeats 2000000
set_option maxRecDepth 100000
set_option linter.unusedVariables false

theorem double_nil (j : Int) (w : World) : Calls Tryz.prog 21 #[.pointer none, .int .i64 j] w fun e w' => e = .returned (.bool false) ∧ w = w' := by
  go_enter Tryz.func21, Tryz.ntmps21
  go_wp2_with fail
  refine (is_nil j _).mono ?_
  rintro e w1 ⟨rfl, rfl⟩
  go_wp2_with fail
  go_ret
  exact ⟨rfl, rfl⟩
theorem swap_nil (j i : Int) (w : World) : Calls Tryz.prog 19 #[.pointer none, .int .i64 j, .int .i64 i] w fun e w' => e = .returned (.bool false) ∧ w = w' := by
  go_enter Tryz.func19, Tryz.ntmps19
  go_wp2_with fail
  refine (is_nil j _).mono ?_
  rintro e w1 ⟨rfl, rfl⟩
  go_wp2_with fail
  go_ret
  exact ⟨rfl, rfl⟩

def dblB (ps : List Pk) (j : Int) : Bool := hasB ps j && decide (ps.length < 2000)
def dblP (ps : List Pk) (j : Int) : List Pk := if dblB ps j then ps ++ [getP ps j] else ps
theorem double_any (S : Nat → Prop) (g k : Nat) (ps : List Pk) (C : Int → Int → Bool) (j : Int) (w : World) (h : NetIs w S g ps k C) :
    Calls Tryz.prog 21 #[.pointer (some ⟨g, 0, none⟩), .int .i64 j] w fun e w' => e = .returned (.bool (dblB ps j)) ∧ NetStep S g w w' (dblP ps j) k C := by
  have hi := is_any S g k ps C j w h
  cases hb : hasB ps j with
  | false =>
    have hv : dblB ps j = false := by unfold dblB; rw [hb]; rfl
    have hp : dblP ps j = ps := by unfold dblP; rw [hv]; rfl
    rw [hv, hp]
    rw [hb] at hi
    have Hi := Lib.hid hi; have Hh := Lib.hid h
    clear h hi hb hv hp
    go_enter Tryz.func21, Tryz.ntmps21
    go_wp2_with fail
    refine Hi.out.mono ?_
    rintro e w1 ⟨rfl, rfl⟩
    go_wp2_with fail
    go_ret
    exact ⟨rfl, NetIs.same Hh.out (Below.refl _ _)⟩
  | true =>
    obtain ⟨n, rfl, hn⟩ := hasB_nat hb
    obtain ⟨p, hpn⟩ : ∃ p, ps[n]? = some p := ⟨_, List.getElem?_eq_getElem hn⟩
    have hgp := getP_yes hpn
    obtain ⟨x, y, s⟩ := p
    rw [hb] at hi
    obtain ⟨v, r, D, hB, hr, hm, hD, s1, s2, s3⟩ := id h
    obtain ⟨q, c, rfl, _, hq⟩ := hr.form (by omega)
    have hnc := own_cap hr (by omega)
    have hc0 := hB.cell 0; have hf0 := hB.free 0
    simp at hc0
    by_cases hful : 2000 ≤ ps.length
    · have hv : dblB ps (n : Int) = false := by unfold dblB; simp; omega
      have hp : dblP ps (n : Int) = ps := by unfold dblP; rw [hv]; rfl
      rw [hv, hp]
      have d1 : decide (2000 ≤ ps.length) = true := by simpa using hful
      have d2 : (2000 : Int) ≤ (ps.length : Int) := by omega
      have Hi := Lib.hid hi; have Hh := Lib.hid h
      clear h hi hb hv hp hB hr hm hD s3 hpn hgp
      go_enter Tryz.func21, Tryz.ntmps21
      go_wp2_with fail
      refine Hi.out.mono ?_
      rintro e w1 ⟨rfl, rfl⟩
      go_wp2_with fail
      go_ret
      exact ⟨rfl, NetIs.same Hh.out (Below.refl _ _)⟩
    · have hv : dblB ps (n : Int) = true := by unfold dblB; rw [hb]; simp; omega
      have hp : dblP ps (n : Int) = ps ++ [(x, y, s)] := by unfold dblP; rw [hv, hgp]; rfl
      rw [hv, hp]
      have d1 : decide (2000 ≤ ps.length) = false := by simpa using hful
      have d2 : (ps.length : Int) < 2000 := by omega
      have hlen : ps.length < 2000 := by omega
      have n0 : (0 : Int) ≤ (n : Int) := by omega
      have n1 : (n : Int) < (ps.length : Int) := by omega
      have hg := hB.lt
      obtain ⟨i0, hi0, hz0, hz1, hz2⟩ := info_parts info_pk
      have k0 := (hr.cellAt (n * 3) (by omega)).trans (pkVs_get ps n 0 _ hpn (by omega))
      have k1 := (hr.cellAt (n * 3 + 1) (by omega)).trans (pkVs_get ps n 1 _ hpn (by omega))
      have k2 := (hr.cellAt (n * 3 + 2) (by omega)).trans (pkVs_get ps n 2 _ hpn (by omega))
      simp [pkC] at k0 k1 k2
      have KE : ∀ g' c' w4, ((w.alloc (.cells #[.int .i64 x, .int .i64 y, .string s] 57)).drew).grownBy w4 (Value.slice (some ⟨q, 0, none⟩) ps.length c).ownBlock → w4.ownsRow 0 57 3 (.slice (some ⟨g', 0, none⟩) (ps.length + 1) c') (ps.length + 1) (pkVs ps ++ [.int .i64 x, .int .i64 y, .string s]) →
          ((Value.slice (some ⟨q, 0, none⟩) ps.length c).ownBlock = some g' ∨ g' = w.heap.size + 1) → NetStep S g w (w4.setCell ⟨g, 0, none⟩ (.slice (some ⟨g', 0, none⟩) (ps.length + 1) c')) (ps ++ [(x, y, s)]) k C ∧ w4.cell? ⟨g, 0, none⟩ = some (.slice (some ⟨q, 0, none⟩) ps.length c) ∧ w4.frozen? ⟨g, 0, none⟩ = false := fun g' c' w4 hgr hown hat => by
        have hbx : Below w.heap.size w ((w.alloc (.cells #[.int .i64 x, .int .i64 y, .string s] 57)).drew) := ((Below.refl _ _).alloc (Nat.le_refl _) _).drew
        refine ⟨netStep_row (hB.below hbx hg) (own_below hr hbx (fun q hq => (hr.lt q hq).2)) (map_chg hm (Chg.of_below (S := fun _ => False) hbx) (fun h => h)) hD s1 s2 s3 (Chg.of_below hbx) hgr
          (by rw [List.length_append, pkVs_append]; exact hown) (fun b hbb => by
            obtain rfl : g' = b := by simpa [Value.ownBlock] using hbb
            exact hat.imp id (fun e => by rw [e]; simp)), ?_, ?_⟩
        · have := ((hB.below hbx hg).grown hgr (Ne.symm (own_ne_blk (own_below hr hbx (fun q hq => (hr.lt q hq).2)) (hB.below hbx hg) (by decide)))).cell 0
          simpa using this
        · exact ((hB.below hbx hg).grown hgr (Ne.symm (own_ne_blk (own_below hr hbx (fun q hq => (hr.lt q hq).2)) (hB.below hbx hg) (by decide)))).free 0
      have KE := Lib.hid KE
      have HR := Lib.hid hr
      have Hi := Lib.hid hi
      clear h hi hb hv hp hB hr hm hD s3 hpn hgp hful
      go_enter Tryz.func21, Tryz.ntmps21
      go_wp2_with fail
      refine Hi.out.mono ?_
      rintro e w1 ⟨rfl, rfl⟩
      go_wp2_with fail
      go_region_law (refine step_append_lies _ (by rfl) _ _ _ (by rfl) 0 57 i0 _ 3 32 Tryz.underlying100 hi0 hz0 hz1 hz2 rfl (by omega) _ _ _ (by rfl) ((HR.out.alloc _).drew) ⟨w.heap.size, 0, none⟩ 1 1 [.int .i64 x, .int .i64 y, .string s] (by rfl) (by rfl) (World.news_of_block (cs := #[.int .i64 x, .int .i64 y, .string s]) (t := 57) (fr := (0, 0)) (heap_alloc_new w _)) (by simp [Value.oneCell']) (by omega) (by simp only [maxLen]; omega) (by omega) (Nat.zero_le _) (w.heap.size + 1) (by simp) ?_; intro g' c' w4 hown4 hgr4 hat4 hlt4; have HF := Lib.hid (KE.out _ _ _ hgr4 hown4 hat4).1; have q5 := (KE.out _ _ _ hgr4 hown4 hat4).2.1; have q6 := (KE.out _ _ _ hgr4 hown4 hat4).2.2; clear hown4 hgr4 hat4)
      all_goals
        go_wp2_with fail
        go_ret
        exact ⟨rfl, HF.out⟩

def swpB (ps : List Pk) (j i : Int) : Bool := hasB ps j && hasB ps i
def swpP (ps : List Pk) (j i : Int) : List Pk := if swpB ps j i then (ps.set j.toNat (getP ps i)).set i.toNat (getP ps j) else ps
end Go.Proofs.YtadhboioaacaeaaGreat

/- The net: Swap. -/
namespace Go.Proofs.YtadhboioaacaeaaGreat
open Go.RowKit
set_option maxHeartbeats 4000000
set_option maxRecDepth 100000
set_option linter.unusedVariables false

/-- one packet of the net's row set anew -/
theorem net_set {S : Nat → Prop} {g k r q c : Nat} {ps : List Pk} {w : World} {D : DataW Unit}
    (hB : BlkIs w g 102 #[.slice (some ⟨q, 0, none⟩) ps.length c, .map (some r)]) (hr : w.ownsRow 0 57 3 (.slice (some ⟨q, 0, none⟩) ps.length c) ps.length (pkVs ps))
    (hm : w.ownsMap Tryz.prog 141 (unitElem (H := Unit)) r k D) (sq : S q) (j : Nat) (hj : j < ps.length) (p : Pk) :
    BlkIs (w.setCells q (j * 3) (pkC p)) g 102 #[.slice (some ⟨q, 0, none⟩) ps.length c, .map (some r)] ∧ (w.setCells q (j * 3) (pkC p)).ownsRow 0 57 3 (.slice (some ⟨q, 0, none⟩) ps.length c) ps.length (pkVs (ps.set j p)) ∧
      (w.setCells q (j * 3) (pkC p)).ownsMap Tryz.prog 141 (unitElem (H := Unit)) r k D ∧ Chg S w (w.setCells q (j * 3) (pkC p)) := by
  obtain ⟨h1, h2⟩ := own_cells (w := w) (pkC p) (pkVs ps) (j * 3) w hr
  rw [pkVs_set ps j p hj] at h1
  have hne : q ≠ g := by have := own_ne_blk hr hB (by decide); simpa [Value.ownBlock] using this
  have hne2 : r ≠ q := by have := own_ne_map hm hr; intro e; exact this (by simp [Value.ownBlock, e])
  exact ⟨hB.grown h2 (by simpa using Ne.symm hne), h1, hm.kept h2 (by simpa using hne2), (Chg.refl _ _).grown h2 (fun b hb _ => by injection hb with hb; subst hb; exact sq)⟩

theorem NetStep.drew {S : Nat → Prop} {g k : Nat} {ps : List Pk} {C : Int → Int → Bool} {w w' : World} (h : NetStep S g w w' ps k C) : NetStep S g w w'.drew ps k C := by
  obtain ⟨S', h1, h2, h3⟩ := h
  exact ⟨S', h1.drew, h2.drew, h3⟩

theorem swap_any (S : Nat → Prop) (g k : Nat) (ps : List Pk) (C : Int → Int → Bool) (j i : Int) (w : World) (h : NetIs w S g ps k C) (hlen : ps.length ≤ 1000000) :
    Calls Tryz.prog 19 #[.pointer (some ⟨g, 0, none⟩), .int .i64 j, .int .i64 i] w fun e w' => e = .returned (.bool (swpB ps j i)) ∧ NetStep S g w w' (swpP ps j i) k C := by
  have hi := is_any S g k ps C j w h
  have hi2 := is_any S g k ps C i w h
  cases hb : hasB ps j with
  | false =>
    have hv : swpB ps j i = false := by unfold swpB; rw [hb]; rfl
    have hp : swpP ps j i = ps := by unfold swpP; rw [hv]; rfl
    rw [hv, hp]
    rw [hb] at hi
    have Hi := Lib.hid hi; have Hh := Lib.hid h
    clear h hi hi2 hb hv hp
    go_enter Tryz.func19, Tryz.ntmps19
    go_wp2_with fail
    refine Hi.out.mono ?_
    rintro e w1 ⟨rfl, rfl⟩
    go_wp2_with fail
    go_ret
    exact ⟨rfl, NetIs.same Hh.out (Below.refl _ _)⟩
  | true =>
    cases hb2 : hasB ps i with
    | false =>
      have hv : swpB ps j i = false := by unfold swpB; rw [hb, hb2]; rfl
      have hp : swpP ps j i = ps := by unfold swpP; rw [hv]; rfl
      rw [hv, hp]
      rw [hb] at hi
      rw [hb2] at hi2
      have Hi := Lib.hid hi; have Hi2 := Lib.hid hi2; have Hh := Lib.hid h
      clear h hi hi2 hb hb2 hv hp
      go_enter Tryz.func19, Tryz.ntmps19
      go_wp2_with fail
      refine Hi.out.mono ?_
      rintro e w1 ⟨rfl, rfl⟩
      go_wp2_with fail
      refine Hi2.out.mono ?_
      rintro e w1 ⟨rfl, rfl⟩
      go_wp2_with fail
      go_ret
      exact ⟨rfl, NetIs.same Hh.out (Below.refl _ _)⟩
    | true =>
      obtain ⟨n, rfl, hn⟩ := hasB_nat hb
      obtain ⟨m, rfl, hm0⟩ := hasB_nat hb2
      obtain ⟨p, hpn⟩ : ∃ p, ps[n]? = some p := ⟨_, List.getElem?_eq_getElem hn⟩
      obtain ⟨p', hpm⟩ : ∃ p, ps[m]? = some p := ⟨_, List.getElem?_eq_getElem hm0⟩
      have HPP := Lib.hid (show n = m → p = p' from fun e => by subst e; rw [hpn] at hpm; injection hpm)
      have hgp := getP_yes hpn
      have hgm := getP_yes hpm
      have hv : swpB ps (n : Int) (m : Int) = true := by unfold swpB; rw [hb, hb2]; rfl
      have hp : swpP ps (n : Int) (m : Int) = (ps.set n p').set m p := by unfold swpP; rw [hv, hgp, hgm]; rfl
      rw [hv, hp]
      rw [hb] at hi
      rw [hb2] at hi2
      obtain ⟨v, r, D, hB, hr, hm, hD, s1, s2, s3⟩ := id h
      obtain ⟨q, c, rfl, _, hq⟩ := hr.form (by omega)
      have hnc := own_cap hr (by omega)
      have hc0 := hB.cell 0
      simp at hc0
      have hfz := hr.frozenAt
      have sq := s3 q rfl
      have hqg : g ≠ q := Ne.symm (by have := own_ne_blk hr hB (by decide); simpa [Value.ownBlock] using this)
      obtain ⟨W1, hW1⟩ : ∃ W, W = (w.setCells q (n * 3) (pkC p')).setCells q (m * 3) (pkC p) := ⟨_, rfl⟩
      obtain ⟨W2, hW2⟩ : ∃ W, W = (w.setCells q (m * 3) (pkC p)).setCells q (n * 3) (pkC p') := ⟨_, rfl⟩
      have hfin1 : NetStep S g w W1 ((ps.set n p').set m p) k C := by
        obtain ⟨b1, r1, m1, c1⟩ := net_set hB hr hm sq n hn p'
        have hl1 : (ps.set n p').length = ps.length := List.length_set
        obtain ⟨b2, r2, m2, c2⟩ := net_set (ps := ps.set n p') (by rw [hl1]; exact b1) (by rw [hl1]; exact r1) m1 sq m (by rw [hl1]; exact hm0) p
        rw [← hW1] at b2 r2 m2 c2
        exact ⟨S, ⟨_, r, D, b2, by have := r2; rw [show ((ps.set n p').set m p).length = (ps.set n p').length from List.length_set]; exact this, m2, hD, s1, s2, fun x hx => (show q = x from by simpa [Value.ownBlock] using hx) ▸ sq⟩, c1.trans c2 (fun _ _ h => h), fun b hb => .inl hb⟩
      have hfin2 : n ≠ m → NetStep S g w W2 ((ps.set n p').set m p) k C := by
        intro hne
        obtain ⟨b1, r1, m1, c1⟩ := net_set hB hr hm sq m hm0 p
        have hl1 : (ps.set m p).length = ps.length := List.length_set
        obtain ⟨b2, r2, m2, c2⟩ := net_set (ps := ps.set m p) (by rw [hl1]; exact b1) (by rw [hl1]; exact r1) m1 sq n (by rw [hl1]; exact hn) p'
        rw [← hW2] at b2 r2 m2 c2
        rw [List.set_comm _ _ hne]
        exact ⟨S, ⟨_, r, D, b2, by have := r2; rw [show ((ps.set m p).set n p').length = (ps.set m p).length from List.length_set]; exact this, m2, hD, s1, s2, fun x hx => (show q = x from by simpa [Value.ownBlock] using hx) ▸ sq⟩, c1.trans c2 (fun _ _ h => h), fun b hb => .inl hb⟩
      have k0 := (hr.cellAt (n * 3) (by omega)).trans (pkVs_get ps n 0 _ hpn (by omega))
      have k1 := (hr.cellAt (n * 3 + 1) (by omega)).trans (pkVs_get ps n 1 _ hpn (by omega))
      have k2 := (hr.cellAt (n * 3 + 2) (by omega)).trans (pkVs_get ps n 2 _ hpn (by omega))
      have l0 := (hr.cellAt (m * 3) (by omega)).trans (pkVs_get ps m 0 _ hpm (by omega))
      have l1 := (hr.cellAt (m * 3 + 1) (by omega)).trans (pkVs_get ps m 1 _ hpm (by omega))
      have l2 := (hr.cellAt (m * 3 + 2) (by omega)).trans (pkVs_get ps m 2 _ hpm (by omega))
      obtain ⟨x, y, s⟩ := p
      obtain ⟨x', y', s'⟩ := p'
      simp [pkC] at k0 k1 k2 l0 l1 l2
      have HW1 := Lib.hid hW1; have HW2 := Lib.hid hW2
      have HF1 := Lib.hid hfin1; have HF2 := Lib.hid hfin2
      have Hi := Lib.hid hi; have Hi2 := Lib.hid hi2
      have n0 : (0 : Int) ≤ (n : Int) := by omega
      have n1 : (n : Int) < (ps.length : Int) := by omega
      have m0 : (0 : Int) ≤ (m : Int) := by omega
      have m1 : (m : Int) < (ps.length : Int) := by omega
      clear h hi hi2 hb hb2 hv hp hB hr hm hD s1 s2 s3 hpn hpm hgp hgm hfin1 hfin2 hW1 hW2
      by_cases hnm : n = m
      · have hpp := HPP.out hnm
        subst hnm
        simp only [Prod.mk.injEq] at hpp
        obtain ⟨rfl, rfl, rfl⟩ := hpp
        clear l0 l1 l2 m0 m1 HF2
        go_enter Tryz.func19, Tryz.ntmps19
        go_wp2_with fail
        refine Hi.out.mono ?_
        rintro e w1 ⟨rfl, rfl⟩
        go_wp2_with fail
        refine Hi2.out.mono ?_
        rintro e w1 ⟨rfl, rfl⟩
        go_wp2_with fail
        go_region
        all_goals
          go_wp2_with fail
          go_ret
          have h1 := HF1.out
          rw [HW1.out] at h1
          exact ⟨rfl, by first | exact h1.drew | exact h1⟩
      · have HN := HF2.out hnm
        have e01 : ¬ n * 3 = m * 3 + 1 := by omega
        have e02 : ¬ n * 3 = m * 3 + 2 := by omega
        have e10 : ¬ n * 3 + 1 = m * 3 := by omega
        have e12 : ¬ n * 3 + 1 = m * 3 + 2 := by omega
        have e20 : ¬ n * 3 + 2 = m * 3 := by omega
        have e21 : ¬ n * 3 + 2 = m * 3 + 1 := by omega
        have f01 : ¬ m * 3 = n * 3 + 1 := by omega
        have f02 : ¬ m * 3 = n * 3 + 2 := by omega
        have f10 : ¬ m * 3 + 1 = n * 3 := by omega
        have f12 : ¬ m * 3 + 1 = n * 3 + 2 := by omega
        have f20 : ¬ m * 3 + 2 = n * 3 := by omega
        have f21 : ¬ m * 3 + 2 = n * 3 + 1 := by omega
        have hmn : ¬ m = n := fun e => hnm e.symm
        have HN := Lib.hid HN
        clear HF2
        go_enter Tryz.func19, Tryz.ntmps19
        go_wp2_with fail
        refine Hi.out.mono ?_
        rintro e w1 ⟨rfl, rfl⟩
        go_wp2_with fail
        refine Hi2.out.mono ?_
        rintro e w1 ⟨rfl, rfl⟩
        go_wp2_with fail
        go_region
        all_goals
          go_wp2_with fail
          go_ret
          have h1 := HF1.out
          have h2 := HN.out
          rw [HW1.out] at h1
          rw [HW2.out] at h2
          exact ⟨rfl, by first | exact h1.drew | exact h2.drew⟩
end Go.Proofs.YtadhboioaacaeaaGreat

/- The net: Cut, of a nil net too. -/
namespace Go.Proofs.YtadhboioaacaeaaGreat
open Go.RowKit
set_option maxHeartbeats 2000000
set_option maxRecDepth 100000
set_option linter.unusedVariables false

/-- the ends that are cut behind a call of Cut -/
def cutC (C : Int → Int → Bool) (a b : Int) (on : Bool) : Int → Int → Bool := fun x y => if x = min a b ∧ y = max a b then on else C x y
theorem cutD_put {D : DataW Unit} {C : Int → Int → Bool} (hD : CutD D C) (hI : Maps.IsMap D) (a b : Int) {l : Lit} (hl : keyOf Tryz.prog 141 (endsV (min a b) (max a b)) = some l) (d : DataW Unit) : CutD (D.put l d) (cutC C a b true) := by
  intro x y l' hl'
  unfold cutC
  by_cases e : x = min a b ∧ y = max a b
  · rw [if_pos e]
    obtain ⟨rfl, rfl⟩ := e
    rw [hl] at hl'
    injection hl' with hl'
    subst hl'
    exact Maps.has_put_same hI (endsKey.key hl) d
  · rw [if_neg e, Maps.has_put_other ?_ d]
    · exact hD x y l' hl'
    · rintro rfl
      exact e (endsV_inj (endsKey.inj hl' hl))
theorem cutD_del {D : DataW Unit} {C : Int → Int → Bool} (hD : CutD D C) (a b : Int) {l : Lit} (hl : keyOf Tryz.prog 141 (endsV (min a b) (max a b)) = some l) : CutD (D.del l) (cutC C a b false) := by
  intro x y l' hl'
  unfold cutC
  by_cases e : x = min a b ∧ y = max a b
  · rw [if_pos e]
    obtain ⟨rfl, rfl⟩ := e
    rw [hl] at hl'
    injection hl' with hl'
    subst hl'
    exact Maps.has_del_same
  · rw [if_neg e, Maps.has_del_other ?_]
    · exact hD x y l' hl'
    · rintro rfl
      exact e (endsV_inj (endsKey.inj hl' hl))
theorem netStep_map {S : Nat → Prop} {g k k' r : Nat} {ps : List Pk} {C : Int → Int → Bool} {w X w' : World} {v : Value} {D D' : DataW Unit}
    (hB : BlkIs X g 102 #[v, .map (some r)]) (hr : X.ownsRow 0 57 3 v ps.length (pkVs ps)) (hm0 : X.ownsMap Tryz.prog 141 (unitElem (H := Unit)) r k' D') (s1 : S g) (s2 : S r) (s3 : ∀ x, v.ownBlock = some x → S x)
    (hC : Chg S w X) (hg : X.grownBy w' (some r)) (hm : w'.ownsMap Tryz.prog 141 (unitElem (H := Unit)) r k D) (hD : CutD D C) : NetStep S g w w' ps k C := by
  have hne := blk_ne_map hm0 hB
  have hne2 := own_ne_map hm0 hr
  exact ⟨S, ⟨v, r, D, hB.grown hg (by simpa using hne), own_chg hr (S := fun b => b = r) ((Chg.refl _ _).grown hg (fun b hb _ => by injection hb with hb; exact hb.symm)) (fun b hb e => hne2 (by rw [hb, e])), hm, hD, s1, s2, s3⟩,
    hC.grown hg (fun b hb _ => by injection hb with hb; subst hb; exact s2), fun b hb => .inl hb⟩

end Go.Proofs.YtadhboioaacaeaaGreat

/- The net: Send, to a nil net too. -/
namespace Go.Proofs.YtadhboioaacaeaaGreat
open Go.RowKit
set_option maxHeartbeats 2000000
set_option maxRecDepth 100000
set_option linter.unusedVariables false

theorem send_nil (A : Option Addr) (n c : Nat) (w : World) : Calls Tryz.prog 18 #[.pointer none, .slice A n c] w fun e w' => e = .returned (.int .i64 0) ∧ w = w' := by
  go_enter Tryz.func18, Tryz.ntmps18
  go_wp2_with fail
  go_ret
  exact ⟨rfl, rfl⟩

/-- packets sent one by one: the net's packets behind them, and how many went -/
def sendS (C : Int → Int → Bool) (ps l : List Pk) : List Pk × Nat := l.foldl (fun q p => (putL C q.1 p, q.2 + (putB C q.1 p).toNat)) (ps, 0)
theorem sendS_snoc (C : Int → Int → Bool) (ps l : List Pk) (p : Pk) : sendS C ps (l ++ [p]) = (putL C (sendS C ps l).1 p, (sendS C ps l).2 + (putB C (sendS C ps l).1 p).toNat) := by
  simp [sendS, List.foldl_append]
theorem sendS_le (C : Int → Int → Bool) (ps l : List Pk) : (sendS C ps l).2 ≤ l.length := by
  unfold sendS
  suffices h : ∀ (l : List Pk) (q : List Pk × Nat), (l.foldl (fun q p => (putL C q.1 p, q.2 + (putB C q.1 p).toNat)) q).2 ≤ q.2 + l.length by simpa using h l (ps, 0)
  intro l
  induction l with
  | nil => intro q; simp
  | cons p l ih =>
    intro q
    rw [List.foldl_cons]
    refine Nat.le_trans (ih _) ?_
    have : (putB C q.1 p).toNat ≤ 1 := Bool.toNat_le _
    simp only [List.length_cons]
    omega

/-- packets that a machine can hold -/
def PkOk (p : Pk) : Prop := (-9223372036854775808 ≤ p.1 ∧ p.1 ≤ 9223372036854775807) ∧ -9223372036854775808 ≤ p.2.1 ∧ p.2.1 ≤ 9223372036854775807

theorem add_nextN (a : Addr) (i j : Nat) (hj : 0 < j) : (⟨(a.add i).block, (a.add i).off + j, none⟩ : Addr) = a.add (i + j) := by
  unfold Addr.add
  by_cases h : i = 0
  · subst h; simp [show j ≠ 0 by omega]
  · simp [h, Nat.add_assoc, show i + j ≠ 0 by omega]

theorem send_any (S : Nat → Prop) (g k B n c : Nat) (A : Option Addr) (ps l : List Pk) (C : Int → Int → Bool) (w : World) (h : NetIs w S g ps k C) (ha : SlR w B 3 A n (pkVs l)) (hB : B ≤ w.heap.size) (hA : ∀ ad, A = some ad → ¬ S ad.block) (hn : n ≤ 9223372036854775807) (hok : ∀ p ∈ l, PkOk p) :
    Calls Tryz.prog 18 #[.pointer (some ⟨g, 0, none⟩), .slice A n c] w fun e w' => e = .returned (.int .i64 ((sendS C ps l).2 : Nat)) ∧ NetStep S g w w' (sendS C ps l).1 k C := by
  have hl : l.length = n := by have := ha.len; rw [pkVs_length] at this; omega
  have Ha := Lib.hid ha; have Hl := Lib.hid hl; have Hok := Lib.hid hok; have HA := Lib.hid hA; have Hh := Lib.hid h
  clear ha hl hok hA h
  go_enter Tryz.func18, Tryz.ntmps18
  go_wp2_with fail
  go_loopw [5, 12] (fun cv i wr => ∃ (q : Nat) (qs : List Pk × Nat) (S' : Nat → Prop), q ≤ n ∧ i = .int .i64 q ∧ cv = .int .i64 (qs.2 : Nat) ∧ Hid (qs = sendS C ps (l.take q)) ∧ Hid (NetIs wr S' g qs.1 k C) ∧ Hid (Chg S w wr) ∧ Hid (∀ b, S' b → S b ∨ w.heap.size ≤ b)) (fun _ i _ => n - (intOf i).toNat)
  case atStart => exact ⟨0, (ps, 0), S, Nat.zero_le _, rfl, rfl, Lib.hid (by simp [sendS]), Lib.hid Hh.out, Lib.hid (Chg.refl _ _), Lib.hid (fun b hb => .inl hb)⟩
  case round =>
    obtain ⟨q, qs, S', hq, rfl, rfl, Hqs, Hnet, Hchg, Hs⟩ := hrel
    have hcnt : qs.2 ≤ q := by rw [Hqs.out]; exact Nat.le_trans (sendS_le _ _ _) (List.length_take_le _ _)
    by_cases hlt : q < n
    · obtain ⟨p, hp⟩ : ∃ p, l[q]? = some p := ⟨_, List.getElem?_eq_getElem (by rw [Hl.out]; exact hlt)⟩
      have hr := Ha.out.chg hB Hchg.out HA.out
      obtain ⟨ad, rfl, had, hcell⟩ := hr.cells (by omega)
      have hpok := Hok.out p (List.mem_of_getElem? hp)
      obtain ⟨x, y, s⟩ := p
      have k0 := hcell (q * 3) _ (pkVs_get l q 0 _ hp (by omega))
      have k1 := hcell (q * 3 + 1) _ (pkVs_get l q 1 _ hp (by omega))
      have k2 := hcell (q * 3 + 2) _ (pkVs_get l q 2 _ hp (by omega))
      simp [pkC] at k0 k1 k2
      rw [← add_nextN _ _ _ (by omega)] at k1 k2
      have q0 : (0 : Int) ≤ (q : Int) := by omega
      have q1 : (q : Int) < (n : Int) := by omega
      have Hp := Lib.hid hp; have Hpok := Lib.hid hpok
      have hadw : ad.block < wr.heap.size := Nat.lt_of_lt_of_le had (Nat.le_trans hB Hchg.out.size)
      clear hp hpok hr hcell
      have hput := put_any S' g k qs.1 C x y s (wr.alloc (.cells #[.int .i64 x, .int .i64 y, .string s] 57)) (Hnet.out.alloc _) Hpok.out.1 Hpok.out.2
      have hsn := sendS_snoc C ps (l.take q) (x, y, s)
      rw [← Hqs.out] at hsn
      have htk : l.take (q + 1) = l.take q ++ [(x, y, s)] := by rw [List.take_add_one, Hp.out]; rfl
      rw [← htk] at hsn
      have Hput := Lib.hid hput; have Hsn := Lib.hid hsn
      clear hput hsn htk
      go_wp2_with fail
      refine Hput.out.mono ?_
      rintro e w2 ⟨rfl, hst⟩
      have Hst := Lib.hid hst
      clear hst
      have hlq : qs.2 + 1 ≤ 9223372036854775807 := by omega
      have hfin : ∃ S'', NetIs w2 S'' g (putL C qs.1 (x, y, s)) k C ∧ Chg S w w2 ∧ ∀ b, S'' b → S b ∨ w.heap.size ≤ b := by
        obtain ⟨S'', n1, c1, e1⟩ := Hst.out
        refine ⟨S'', n1, (Hchg.out.alloc _).trans c1 (fun b hb hs => ?_), fun b hb => ?_⟩
        · rcases Hs.out b hs with h | h
          · exact h
          · omega
        · rcases e1 b hb with h | h
          · exact Hs.out b h
          · refine .inr (Nat.le_trans Hchg.out.size (Nat.le_trans ?_ h))
            simp
      obtain ⟨S'', n1, c1, e1⟩ := hfin
      have N1 := Lib.hid n1; have C1 := Lib.hid c1; have E1 := Lib.hid e1
      clear n1 c1 e1
      cases hb : putB C qs.1 (x, y, s) with
      | false =>
        rw [hb] at Hsn
        have Hb := Lib.hid hb; clear hb
        go_wp2_with fail
        go_roundw
        case rel => exact ⟨q + 1, sendS C ps (l.take (q + 1)), S'', by omega, by go_num, by rw [Hsn.out]; rfl, Lib.hid rfl, Lib.hid (by rw [Hsn.out]; exact N1.out), C1, E1⟩
        case measure => simp [intOf] <;> omega
      | true =>
        rw [hb] at Hsn
        have Hb := Lib.hid hb; clear hb
        go_wp2_with fail
        go_roundw
        case rel => exact ⟨q + 1, sendS C ps (l.take (q + 1)), S'', by omega, by go_num, by rw [Hsn.out]; first | rfl | go_num, Lib.hid rfl, Lib.hid (by rw [Hsn.out]; exact N1.out), C1, E1⟩
        case measure => simp [intOf] <;> omega
    · obtain rfl : q = n := by omega
      have hd : ¬ ((q : Int) < (q : Int)) := by omega
      have hqs : qs = sendS C ps l := by rw [Hqs.out, List.take_of_length_le (by rw [Hl.out]; omega)]
      have HQ := Lib.hid hqs; clear hqs hlt
      go_wp2_with fail
      go_ret
      rw [← HQ.out]
      exact ⟨rfl, S', Hnet.out, Hchg.out, Hs.out⟩
end Go.Proofs.YtadhboioaacaeaaGreat

/- chapter 20: the first call. -/
namespace Go.Proofs.YtadhboioaacaeaaGreat
open Go.RowKit
set_option maxHeartbeats 2000000
set_option maxRecDepth 100000
set_option linter.unusedVariables false

/-- the net that a law made: its blocks are new, and what was there is as it was -/
structure NetAt (W w : World) (S : Nat → Prop) (g : Nat) (ps : List Pk) (k : Nat) (C : Int → Int → Bool) : Prop where
  is : NetIs w S g ps k C
  lo : ∀ b, S b → W.heap.size ≤ b ∧ b < w.heap.size
  bel : Below W.heap.size W w

section
variable {W w w' : World} {S : Nat → Prop} {g k k' : Nat} {ps ps' : List Pk} {C C' : Int → Int → Bool}
theorem NetAt.step (h : NetAt W w S g ps k C) (hs : NetStep S g w w' ps' k' C') : ∃ S', NetAt W w' S' g ps' k' C' := by
  obtain ⟨S', n1, c1, e1⟩ := hs
  refine ⟨_, n1.shrink, fun b hb => ⟨?_, hb.2⟩, h.bel.trans (c1.below (fun b hb => (h.lo b hb).1) h.bel.size)⟩
  rcases e1 b hb.1 with h1 | h1
  · exact (h.lo b h1).1
  · exact Nat.le_trans h.bel.size h1
theorem NetAt.under (h : NetAt W w S g ps k C) (hb : Below w.heap.size w w') : NetAt W w' S g ps k C :=
  ⟨h.is.below hb, fun b hs => ⟨(h.lo b hs).1, Nat.lt_of_lt_of_le (h.lo b hs).2 hb.size⟩, h.bel.trans (hb.mono h.bel.size)⟩
theorem NetAt.alloc (h : NetAt W w S g ps k C) (o : Obj) : NetAt W (w.alloc o) S g ps k C := h.under ((Below.refl _ _).alloc (Nat.le_refl _) o)
theorem NetAt.drew (h : NetAt W w S g ps k C) : NetAt W w.drew S g ps k C := h.under (Below.refl _ _).drew
theorem NetAt.drewN (h : NetAt W w S g ps k C) (n : Nat) : NetAt W (w.drewN n) S g ps k C := h.under (below_drewN (Below.refl _ _) n)
theorem NetAt.made (hn : NetIs w (fun b => W.heap.size ≤ b) g ps k C) (hb : Below W.heap.size W w) : ∃ S, NetAt W w S g ps k C := ⟨_, hn.shrink, fun _ h => h, hb⟩
theorem NetAt.len (h : NetAt W w S g ps k C) : ps.length * 3 ≤ ps.length * 3 := Nat.le_refl _
end

/-- packets laid in a new block, to be sent -/
theorem sl_new (w : World) (ps : List Pk) (cs : Array Value) (h : cs.toList = pkVs ps) : SlR (w.alloc (.cells cs 57)) (w.heap.size + 1) 3 (some ⟨w.heap.size, 0, none⟩) ps.length (pkVs ps) := by
  have := SlR.new (n := ps.length) (size := 3) w w.heap.size rfl 57 cs (by rw [h, pkVs_length])
  rw [h] at this
  exact this
theorem NetAt.far {W w : World} {S : Nat → Prop} {g k : Nat} {ps : List Pk} {C : Int → Int → Bool} (h : NetAt W w S g ps k C) : ∀ ad : Addr, (some (⟨w.heap.size, 0, none⟩ : Addr)) = some ad → ¬ S ad.block := by
  rintro ad e hs
  injection e with e
  subst e
  exact Nat.lt_irrefl _ (h.lo _ hs).2
/-- a send of packets that lie in a new block -/
theorem send_new {W w : World} {S : Nat → Prop} {g k : Nat} {ps : List Pk} {C : Int → Int → Bool} (h : NetAt W w S g ps k C) (l : List Pk) (cs : Array Value) (hcs : cs.toList = pkVs l) (hok : ∀ p ∈ l, PkOk p) (hl : l.length ≤ 1000000) (n c : Nat) (hn : n = l.length) :
    Calls Tryz.prog 18 #[.pointer (some ⟨g, 0, none⟩), .slice (some ⟨w.heap.size, 0, none⟩) n c] (w.alloc (.cells cs 57)) fun e w' => e = .returned (.int .i64 ((sendS C ps l).2 : Nat)) ∧ ∃ S', NetAt W w' S' g (sendS C ps l).1 k C := by
  subst hn
  refine (send_any S g k (w.heap.size + 1) l.length c (some ⟨w.heap.size, 0, none⟩) ps l C _ (h.is.alloc _) (sl_new w l cs hcs) (by simp) h.far (by omega) hok).mono ?_
  rintro e w' ⟨rfl, hs⟩
  exact ⟨rfl, (h.alloc _).step hs⟩

theorem alive20_any (W : World) : Calls Tryz.prog 5 #[] W fun e w' => e = .returned (.bool true) ∧ Below W.heap.size W w' := by
  obtain ⟨p1, hp1⟩ : ∃ p : Pk, p = (1, 2, ⟨#[120]⟩) := ⟨_, rfl⟩
  obtain ⟨p2, hp2⟩ : ∃ p : Pk, p = (2, 1, ⟨#[121]⟩) := ⟨_, rfl⟩
  have e1 : sendS (fun _ _ => false) [] [p1, p2] = ([p1, p2], 2) := by rw [hp1, hp2]; simp [sendS, putL, putB]
  have e2 : swpB [p1, p2] 0 1 = true := by simp [swpB, hasB]
  have e3 : swpP [p1, p2] 0 1 = [p2, p1] := by simp [swpP, e2, getP, hasB]
  have e4 : getP [p2, p1] 0 = p2 := by simp [getP, hasB]
  have e5 : hasB [p2, p1] 0 = true := by simp [hasB]
  have e6 : dropP [p2, p1] 0 = [p1] := by simp [dropP, e5]
  have e7 : dblB [p1] 0 = true := by simp [dblB, hasB]
  have e8 : dblP [p1] 0 = [p1, p1] := by simp [dblP, e7, getP, hasB]
  have hcs : (#[.int .i64 1, .int .i64 2, .string ⟨#[120]⟩, .int .i64 2, .int .i64 1, .string ⟨#[121]⟩] : Array Value).toList = pkVs [p1, p2] := by rw [hp1, hp2]; rfl
  have hok : ∀ p ∈ [p1, p2], PkOk p := by rw [hp1, hp2]; simp [PkOk]
  have E1 := Lib.hid e1; have E2 := Lib.hid e2; have E3 := Lib.hid e3; have E4 := Lib.hid e4; have E5 := Lib.hid e5; have E6 := Lib.hid e6; have E7 := Lib.hid e7; have E8 := Lib.hid e8
  have Hcs := Lib.hid hcs; have Hok := Lib.hid hok; have P2 := Lib.hid hp2
  clear e1 e2 e3 e4 e5 e6 e7 e8 hcs hok hp1 hp2
  go_enter Tryz.func5, Tryz.ntmps5
  go_wp2_with fail
  refine (new_any _).mono ?_
  rintro e w1 ⟨rfl, hn1, hb1⟩
  obtain ⟨S1, N1⟩ := NetAt.made hn1 hb1
  clear hn1 hb1
  go_wp2_with fail
  refine (send_new N1 [p1, p2] _ Hcs.out Hok.out (by simp) _ _ rfl).mono ?_
  rw [E1.out]
  rintro e w2 ⟨rfl, S2, N2⟩
  go_wp2_with fail
  refine (swap_any S2 _ 0 [p1, p2] _ 0 1 _ N2.is (by simp)).mono ?_
  rw [E2.out, E3.out]
  rintro e w3 ⟨rfl, hs3⟩
  obtain ⟨S3, N3⟩ := N2.step hs3
  clear hs3
  go_wp2_with fail
  refine (netTake_any S3 _ 0 [p2, p1] _ 0 _ N3.is (by simp)).mono ?_
  rw [E4.out, E5.out, E6.out, P2.out]
  unfold pkA
  rintro e w4 ⟨rfl, hs4⟩
  obtain ⟨S4, N4⟩ := N3.step hs4
  clear hs4
  go_wp2_with fail
  refine (double_any S4 _ 0 [p1] _ 0 _ (N4.alloc _).is).mono ?_
  rw [E7.out, E8.out]
  rintro e w5 ⟨rfl, hs5⟩
  obtain ⟨S5, N5⟩ := (N4.alloc _).step hs5
  clear hs5
  go_wp2_with fail
  refine (len_any S5 _ 0 [p1, p1] _ _ N5.is).mono ?_
  rintro e w6 ⟨rfl, rfl⟩
  go_wp2_with fail
  go_ret
  exact ⟨rfl, N5.bel⟩
end Go.Proofs.YtadhboioaacaeaaGreat
