/- chapter 12: the document's Add. -/
import Derived.Test.YtfkkcgdniepgoaaGreatJTableMerges9
import Derived.Test.YtfkkcgdniepgoaaGreatJTableMerges8
import Derived.Deep.RegionLaw
import Derived.Deep.RegionHeld3

namespace Go.Proofs.YtfkkcgdniepgoaaGreat
open Go.RowKit
set_option maxHeartbeats 4000000
set_option maxRecDepth 100000
set_option linter.unusedVariables false

theorem wp_worldR {P : Program} {c : Code} {Q : Exit → Act → World → Prop} {a : Act} {w W : World} {B : Nat} (h : ∀ X, Below B W X → Code.wp P c Q a X) (hb : Below B W w) : Code.wp P c Q a w := h w hb
theorem rank_before : ∀ {l : List En} {e : En} {i : Nat} {x : En}, i < rankE l e → l[i]? = some x → ltE x e = true
  | [], e, i, x, h, hx => by simp at hx
  | y :: l, e, i, x, h, hx => by
    unfold rankE at h
    split at h
    · rename_i hy
      cases i with
      | zero => simp at hx; subst hx; exact hy
      | succ i => exact rank_before (l := l) (e := e) (i := i) (by omega) (by simpa using hx)
    · omega
theorem rank_here : ∀ {l : List En} {e : En} {x : En}, l[rankE l e]? = some x → ltE x e = false
  | [], e, x, hx => by simp at hx
  | y :: l, e, x, hx => by
    unfold rankE at hx
    split at hx
    · exact rank_here (by simpa using hx)
    · rename_i hy; simp at hx; subst hx; simpa using hy
theorem newE_at {l : List En} {e p : En} {k : Nat} (hk : k = rankE l e) (hp : l[k]? = some p) (hne : ¬ p = e) (hok : okE e = true) : newE l e = true := by
  unfold newE hasE
  rw [← hk, hp, hok, Bool.and_true, decide_eq_false (by intro h; injection h with h; exact hne h)]
  rfl
theorem newE_end {l : List En} {e : En} (hk : l.length = rankE l e) (hok : okE e = true) : newE l e = true := by
  unfold newE hasE
  rw [← hk, List.getElem?_eq_none (Nat.le_refl _), hok]
  rfl
theorem newE_has {l : List En} {e : En} {k : Nat} (hk : k = rankE l e) (hp : l[k]? = some e) : newE l e = false ∧ insE l e = l := by
  have : newE l e = false := by
    unfold newE hasE
    rw [← hk, hp, decide_eq_true rfl]
    rfl
  exact ⟨this, by unfold insE; rw [this]; rfl⟩
theorem own_atR {w : World} {base : Nat} {e : TypeId} {size n m c : Nat} {A : Option Addr} {xs : List Value} (h : w.ownsRow base e size (.slice A n c) m xs) : ∀ ad, A = some ad → base ≤ ad.block ∧ ad.block < w.heap.size := by
  intro ad hA
  subst hA
  rcases h.2 with ⟨h0, _⟩ | ⟨g', cap, cur, hv, hbg, hh, _⟩
  · cases h0
  · obtain rfl : ad = ⟨g', 0, none⟩ := by injection hv with h1; injection h1
    exact ⟨hbg, (Array.getElem?_eq_some_iff.1 hh).1⟩
theorem own_someR {w : World} {base : Nat} {e : TypeId} {size n m c : Nat} {A : Option Addr} {xs : List Value} (h : w.ownsRow base e size (.slice A n c) m xs) (hm : 0 < m) : ¬ A = none := by
  rintro rfl
  obtain ⟨g, cap, hv, _⟩ := h.form hm
  injection hv with h1; cases h1
theorem run_eql_ren (w : World) (x y z u v t : Int) : (binOp .eql 56 (.agg #[.int .i64 x, .int .i64 y, .int .i64 z]) (.agg #[.int .i64 u, .int .i64 v, .int .i64 t])).run Tryz.prog w = .ok (.bool ((x == u) && ((y == v) && (z == t)))) w := by
  go_simp
  split
  · split
    · split <;> simp_all
    · simp_all
  · simp_all

theorem refAdd_any (A : Option Addr) (n c B : Nat) (l : List En) (e : En) (w : World) (hr : SlR w B 3 A n (enVs l)) (hB : B ≤ w.heap.size) (hn : n ≤ 1000000) (hnc : n ≤ c) (hnil : A = none → c = 0) :
    Calls Tryz.prog 79 #[.slice A n c, enA e] w fun x w' => ∃ A' n' c', x = .returned (.tuple #[.slice A' n' c', .bool (newE l e)]) ∧ SlR w' w'.heap.size 3 A' n' (enVs (insE l e)) ∧ n' ≤ c' ∧ (A' = A ∧ n' = n ∧ c' = c ∨ w'.ownsRow w.heap.size 56 3 (.slice A' n' c') n' (enVs (insE l e))) ∧ (A' = none → c' = 0) ∧ Below w.heap.size w w' := by
  obtain ⟨i0, hi0, hz0, hz1, hz2⟩ := info_parts info_ren
  have hl : l.length = n := by have := hr.len; rw [enVs_length] at this; omega
  obtain ⟨e0, e1, e2⟩ := e
  obtain ⟨W0, hW0⟩ : ∃ V, w.alloc (.cells #[.int .i64 e0, .int .i64 e1, .int .i64 e2] 56) = V := ⟨_, rfl⟩
  have hE : BlkIs W0 w.heap.size 56 #[.int .i64 e0, .int .i64 e1, .int .i64 e2] := by rw [← hW0]; exact BlkIs.new _ _ _
  have hb0 : Below w.heap.size w W0 := by rw [← hW0]; exact (Below.refl _ _).alloc (Nat.le_refl _) _
  have hr0 := hr.below (hb0.mono hB)
  have hBs : B ≤ W0.heap.size := Nat.le_trans hB hb0.size
  have c0 := hE.cell 0; have c1 := hE.cell 1; have c2 := hE.cell 2
  unfold enA
  dsimp only
  by_cases hok : 0 ≤ e0 ∧ 0 ≤ e1 ∧ 0 ≤ e2
  · obtain ⟨h0, h1, h2⟩ := hok
    have hoke : okE (e0, e1, e2) = true := decide_eq_true ⟨h0, h1, h2⟩
    have Hr := Lib.hid hr0; have HE := Lib.hid hE; have Hb0 := Lib.hid hb0; have Hl := Lib.hid hl; have HW0 := Lib.hid hW0; have Hoke := Lib.hid hoke
    have hrkl := rank_le l (e0, e1, e2)
    rw [hl] at hrkl
    obtain ⟨rk, hrk⟩ : ∃ rk, rk = rankE l (e0, e1, e2) := ⟨_, rfl⟩
    rw [← hrk] at hrkl
    have Hrk := Lib.hid hrk
    have hgl := hE.lt
    clear hr hr0 hE hb0 hl hoke hrk
    go_enter Tryz.func79, Tryz.ntmps79
    go_wp2_with fail
    (try rw [hW0])
    clear hW0 c0 c1 c2
    go_loopw [6] (fun i wr => ∃ k : Nat, k ≤ rk ∧ i = .int .i64 (k : Int) ∧ Hid (Below W0.heap.size W0 wr)) (fun i _ => rk - (intOf i).toNat)
    case atStart => exact ⟨0, Nat.zero_le _, rfl, Lib.hid (Below.refl _ _)⟩
    case round =>
      obtain ⟨k, hk, rfl, HB0⟩ := hrel
      have hk0 : 0 ≤ (k : Int) := by omega
      have hEw := HE.out.below HB0.out HE.out.lt
      have g0 := hEw.cell 0; have g1 := hEw.cell 1; have g2 := hEw.cell 2
      have hglw : w.heap.size < wr.heap.size := hEw.lt
      clear hEw
      by_cases hkn : k < n
      · obtain ⟨ad, ⟨p0, p1, p2⟩, rfl, had, hp, hat⟩ := (Hr.out.below (HB0.out.mono hBs)).en (k := k) (by omega)
        have Hp := Lib.hid hp
        obtain ⟨a0, a1, a2⟩ := id hat
        dsimp only at a0 a1 a2
        have hk1 : (k : Int) < (n : Int) := by omega
        have hadw : (ad.add (k * 3)).block < wr.heap.size := by rw [add_block]; have := HB0.out.size; omega
        have hS0 : ∀ wx, Below wr.heap.size wr wx → wx.cell? (ad.add (k * 3)) = some (.int .i64 p0) ∧ wx.cell? ⟨(ad.add (k * 3)).block, (ad.add (k * 3)).off + 1, none⟩ = some (.int .i64 p1) ∧ wx.cell? ⟨(ad.add (k * 3)).block, (ad.add (k * 3)).off + 2, none⟩ = some (.int .i64 p2) ∧ wx.cell? ⟨w.heap.size, 0, none⟩ = some (.int .i64 e0) ∧ wx.cell? ⟨w.heap.size, 1, none⟩ = some (.int .i64 e1) ∧ wx.cell? ⟨w.heap.size, 2, none⟩ = some (.int .i64 e2) := fun wx h => by
          have hE2 := (HE.out.below HB0.out HE.out.lt).below h hglw
          obtain ⟨b0, b1, b2⟩ := hat.below h (by rw [add_block] at hadw ⊢; exact hadw)
          exact ⟨b0, b1, b2, hE2.cell 0, hE2.cell 1, hE2.cell 2⟩
        have HS := Lib.hid hS0
        have hless := fun w => refLess_any (p0, p1, p2) (e0, e1, e2) w
        clear hp hat hS0
        have HB := Below.refl wr.heap.size wr
        have hS := HS.out _ HB
        by_cases hkr : k < rk
        · rw [rank_before (l := l) (e := (e0, e1, e2)) (i := k) (by rw [← Hrk.out]; exact hkr) Hp.out] at hless
          unfold enA at hless
          dsimp only at hless
          have Hless := Lib.hid hless
          clear hless
          go_wp2_with fail
          go_region_held3 (fun wx => wx.cell? (ad.add (k * 3)) = some (.int .i64 p0) ∧ wx.cell? ⟨(ad.add (k * 3)).block, (ad.add (k * 3)).off + 1, none⟩ = some (.int .i64 p1) ∧ wx.cell? ⟨(ad.add (k * 3)).block, (ad.add (k * 3)).off + 2, none⟩ = some (.int .i64 p2) ∧ wx.cell? ⟨w.heap.size, 0, none⟩ = some (.int .i64 e0) ∧ wx.cell? ⟨w.heap.size, 1, none⟩ = some (.int .i64 e1) ∧ wx.cell? ⟨w.heap.size, 2, none⟩ = some (.int .i64 e2)) (first | exact hS | go_keep) ((first
            | (go_at_call 83; refine (Hless.out _).mono ?_; rintro e wx ⟨rfl, hb⟩; have HB := HB.trans ((by first | exact hb | exact below_undrew hb : Below _ _ _).mono HB.size); have hS := HS.out _ HB)))
          have hfin := Lib.hid (HB0.out.trans (HB.mono HB0.out.size))
          go_wp2_with fail
          go_roundw
          case rel => exact ⟨k + 1, by omega, by go_num, hfin⟩
          case measure => simp [intOf]; omega
        · obtain rfl : k = rk := by omega
          rw [rank_here (l := l) (e := (e0, e1, e2)) (by rw [← Hrk.out]; exact Hp.out)] at hless
          unfold enA at hless
          dsimp only at hless
          have Hless := Lib.hid hless
          clear hless
          go_wp2_with fail
          go_region_held3 (fun wx => wx.cell? (ad.add (k * 3)) = some (.int .i64 p0) ∧ wx.cell? ⟨(ad.add (k * 3)).block, (ad.add (k * 3)).off + 1, none⟩ = some (.int .i64 p1) ∧ wx.cell? ⟨(ad.add (k * 3)).block, (ad.add (k * 3)).off + 2, none⟩ = some (.int .i64 p2) ∧ wx.cell? ⟨w.heap.size, 0, none⟩ = some (.int .i64 e0) ∧ wx.cell? ⟨w.heap.size, 1, none⟩ = some (.int .i64 e1) ∧ wx.cell? ⟨w.heap.size, 2, none⟩ = some (.int .i64 e2)) (first | exact hS | go_keep) ((first
            | (go_at_call 83; refine (Hless.out _).mono ?_; rintro e wx ⟨rfl, hb⟩; have HB := HB.trans ((by first | exact hb | exact below_undrew hb : Below _ _ _).mono HB.size); have hS := HS.out _ HB)))
          have HB7 := Lib.hid HB
          obtain ⟨q0, q1, q2, q3, q4, q5⟩ := hS
          have hEq := fun w => run_eql_ren w p0 p1 p2 e0 e1 e2
          by_cases hpe : (p0, p1, p2) = (e0, e1, e2)
          · simp only [Prod.mk.injEq] at hpe
            obtain ⟨rfl, rfl, rfl⟩ := hpe
            have HNe := Lib.hid (newE_has Hrk.out Hp.out)
            have hEq2 : ∀ w, (binOp .eql 56 (.agg #[.int .i64 p0, .int .i64 p1, .int .i64 p2]) (.agg #[.int .i64 p0, .int .i64 p1, .int .i64 p2])).run Tryz.prog w = .ok (.bool true) w := fun w => by rw [run_eql_ren]; simp
            have HbF := Lib.hid (Hb0.out.trans ((HB0.out.trans (HB7.out.mono HB0.out.size)).mono Hb0.out.size))
            have hsl := (Hr.out.below ((HB0.out.trans (HB7.out.mono HB0.out.size)).mono hBs)).more (Nat.le_trans hBs (Nat.le_trans HB0.out.size HB7.out.size))
            have Hsl := Lib.hid hsl
            clear hEq hsl
            go_wp2_with fail
            go_quiet (fail)
            go_wp2_with fail
            go_ret2
            exact ⟨some ad, n, c, by rw [HNe.out.1]; rfl, by rw [HNe.out.2]; exact Hsl.out.drewN _, hnc, .inl ⟨rfl, rfl, rfl⟩, fun h => (by cases h), below_drewN HbF.out _⟩
          · have hpe2 : ((p0 == e0) && ((p1 == e1) && (p2 == e2))) = false := by
              rw [Bool.eq_false_iff]
              intro h
              simp only [Bool.and_eq_true, beq_iff_eq] at h
              exact hpe (by rw [h.1, h.2.1, h.2.2])
            rw [hpe2] at hEq
            have HNe := Lib.hid (newE_at Hrk.out Hp.out hpe Hoke.out)
            go_wp2_with fail
            go_quiet (fail)
            go_wp2_with fail
            refine wp_worldR (B := W0.heap.size) (W := W0) ?_ (by have h := HB0.out.trans (HB7.out.mono HB0.out.size); first | exact h | exact below_drewN h _)
            intro X hX
            have hk2 : (k : Int) ≤ (n : Int) := by omega
            have hk3 : (k : Int) ≤ (c : Int) := by omega
            have hXs : W0.heap.size ≤ X.heap.size := hX.size
            have hlX : SlR X X.heap.size 3 (some ad) n (enVs l) := (Hr.out.below (hX.mono hBs)).more (by omega)
            have hEX := HE.out.below hX HE.out.lt
            have hF : ∀ wy, Below X.heap.size X wy → SlR wy X.heap.size 3 (some ad) k (enVs (l.take k)) := fun wy h => by
              have := (hlX.below h).first (m := k) (by omega)
              rwa [enVs_take] at this
            have hC : ∀ wy, Below X.heap.size X wy → SlR wy X.heap.size 3 (some (ad.add (k * 3))) (n - k) (enVs (l.drop k)) := fun wy h => by
              have := (hlX.below h).cut (k := k) (cap := c) (by omega) hnc
              rw [if_neg (by omega), enVs_drop] at this
              exact this
            have hEc : ∀ wy, Below X.heap.size X wy → wy.cell? ⟨w.heap.size, 0, none⟩ = some (.int .i64 e0) ∧ wy.cell? ⟨w.heap.size, 1, none⟩ = some (.int .i64 e1) ∧ wy.cell? ⟨w.heap.size, 2, none⟩ = some (.int .i64 e2) := fun wy h => by
              have f := (hEX.below h hEX.lt).cell
              exact ⟨f 0, f 1, f 2⟩
            have HF := Lib.hid hF; have HC := Lib.hid hC; have HEc := Lib.hid hEc; have HX := Lib.hid hX
            obtain ⟨z0, z1, z2⟩ := hEc X (Below.refl _ _)
            clear hlX hEX hF hC hEc hX hEq hpe hpe2 q0 q1 q2 q3 q4 q5 a0 a1 a2 g0 g1 g2
            have hck : ¬ c = k := by omega
            have HXa := Lib.hid ((Below.refl X.heap.size X).alloc (Nat.le_refl _) (.cells #[.int .i64 e0, .int .i64 e1, .int .i64 e2] 56))
            have tok1 : True := trivial
            have tok2 : True := trivial
            go_region_law (first
              | (have _t := tok1; clear tok1 _t; refine step_append_sl (by rfl) (.const (.slice none 0 0)) (.tmp 50) _ (by rfl) X.heap.size 56 i0 _ 3 24 Tryz.underlying24 hi0 hz0 hz1 hz2 rfl (by omega) (.slice none 0 0) 0 [] (by simp [Act.eval]) (World.ownsRow_nil _ _ _ _) X.heap.size (some ad) k c (enVs (l.take k)) (by simp [Act.eval, Act.put]) (HF.out _ (by repeat (first | exact Below.refl _ _ | refine Below.drew ?_))) (enVs_one _) (by simp only [maxLen]; omega) (by omega) (by simp <;> omega) ?_; intro va wa hown1 hg1 hat1; have HA : Hid (Below X.heap.size X wa) := Lib.hid (((Below.refl _ _).drew).grown hg1 (by simp <;> omega) (by simp [Value.ownBlock])); simp only [Nat.zero_add, List.nil_append] at hown1; have HO := Lib.hid hown1; have tokA : True := trivial; obtain ⟨y0, y1, y2⟩ := HEc.out wa HA.out; clear hown1 hg1 hat1)
              | (have _t := tok1; clear tok1 _t; refine step_append_sl (by rfl) (.const (.slice none 0 0)) (.tmp 50) _ (by rfl) X.heap.size 56 i0 _ 3 24 Tryz.underlying24 hi0 hz0 hz1 hz2 rfl (by omega) (.slice none 0 0) 0 [] (by simp [Act.eval]) (World.ownsRow_nil _ _ _ _) X.heap.size (some ad) k c (enVs (l.take k)) (by simp [Act.eval, Act.put]) (HF.out _ (HXa.out.drew)) (enVs_one _) (by simp only [maxLen]; omega) (by omega) (by simp <;> omega) ?_; intro va wa hown1 hg1 hat1; have HA : Hid (Below X.heap.size X wa) := Lib.hid ((HXa.out.drew).grown hg1 (by simp <;> omega) (by simp [Value.ownBlock])); have HK : Hid (BlkIs wa X.heap.size 56 #[.int .i64 e0, .int .i64 e1, .int .i64 e2]) := Lib.hid (((BlkIs.new X _ _).drew).grown hg1 (by simp [Value.ownBlock])); simp only [Nat.zero_add, List.nil_append] at hown1; have HO := Lib.hid hown1; obtain ⟨y0, y1, y2⟩ := HEc.out wa HA.out; clear hown1 hg1 hat1)
              | (have _t := tok2; have _t2 := tokA; clear tok2 _t; refine step_append_lies _ (by rfl) (.tmp 51) (.tmp 53) _ (by rfl) X.heap.size 56 i0 _ 3 24 Tryz.underlying24 hi0 hz0 hz1 hz2 rfl (by omega) va k (enVs (l.take k)) (by simp [Act.eval, Act.put]) (by exact HO.out.alloc _) ⟨wa.heap.size, 0, none⟩ 1 1 (enC (e0, e1, e2)) (by simp [Act.eval, Act.put]) (by rfl) (World.news_of_block (cs := #[.int .i64 e0, .int .i64 e1, .int .i64 e2]) (heap_alloc_new wa _)) (enC_one _) (by omega) (by simp only [maxLen]; omega) (by omega) (by have := HA.out.size; simp <;> omega) _ rfl ?_; intro g3 c3 w3 hown3 hgrow3 hat3 hlt3; have HA3 : Hid (Below X.heap.size X w3) := Lib.hid ((HA.out.alloc HA.out.size _).grown hgrow3 (by have := HA.out.size; simp <;> omega) (fun q hq => (HO.out.lt q hq).1)); have HO3 := Lib.hid hown3; clear hown3 hgrow3 hat3 hlt3)
              | (have _t := tok2; have _t2 := HK; clear tok2 _t; refine step_append_lies _ (by rfl) (.tmp 51) (.tmp 53) _ (by rfl) X.heap.size 56 i0 _ 3 24 Tryz.underlying24 hi0 hz0 hz1 hz2 rfl (by omega) va k (enVs (l.take k)) (by simp [Act.eval, Act.put]) (by first | exact HO.out | exact HO.out.drew) ⟨X.heap.size, 0, none⟩ 1 1 (enC (e0, e1, e2)) (by simp [Act.eval, Act.put]) (by rfl) (World.news_of_block (cs := #[.int .i64 e0, .int .i64 e1, .int .i64 e2]) (by first | exact HK.out | exact HK.out.drew)) (enC_one _) (by omega) (by simp only [maxLen]; omega) (by omega) (by have := HA.out.size; simp <;> omega) _ rfl ?_; intro g3 c3 w3 hown3 hgrow3 hat3 hlt3; have HA3 : Hid (Below X.heap.size X w3) := Lib.hid (HA.out.grown hgrow3 HA.out.size (fun q hq => (HO.out.lt q hq).1)); have HO3 := Lib.hid hown3; clear hown3 hgrow3 hat3 hlt3)
              | (refine step_append_sl (by rfl) (.tmp 54) (.tmp 57) _ (by rfl) X.heap.size 56 i0 _ 3 24 Tryz.underlying24 hi0 hz0 hz1 hz2 rfl (by omega) (.slice (some ⟨g3, 0, none⟩) (k + 1) c3) (k + 1) (enVs (l.take k) ++ enC (e0, e1, e2)) (by simp [Act.eval, Act.put]) (by first | exact HO3.out | exact HO3.out.drew) X.heap.size (some (ad.add (k * 3))) (n - k) (c - k) (enVs (l.drop k)) (by simp [Act.eval, Act.put]) (HC.out _ (by first | exact HA3.out | exact HA3.out.drew)) (enVs_one _) (by simp only [maxLen]; omega) (by omega) (by have := HA3.out.size; simp <;> omega) ?_; intro vb wb hown4 hg4 hat4; have HB4 : Hid (Below X.heap.size X wb) := Lib.hid (HA3.out.grown hg4 HA3.out.size (fun q hq => (HO3.out.lt q hq).1)); obtain ⟨A9, c9, rfl, hc9⟩ := own_slice hown4; have HO4 := Lib.hid hown4; clear hown4 hg4 hat4))
            all_goals
              have hres : (SlR wb wb.heap.size 3 A9 (k + 1 + (n - k)) (enVs (insE l (e0, e1, e2)))) ∧ newE l (e0, e1, e2) = true ∧ wb.ownsRow w.heap.size 56 3 (.slice A9 (k + 1 + (n - k)) c9) (k + 1 + (n - k)) (enVs (insE l (e0, e1, e2))) := by
                have hne := HNe.out
                have hins : insE l (e0, e1, e2) = l.take k ++ (e0, e1, e2) :: l.drop k := by unfold insE; rw [hne, if_pos rfl, ← Hrk.out]
                refine ⟨?_, hne, ?_⟩
                · rw [hins, enVs_append, enVs_cons, ← List.append_assoc]; exact SlR.own HO4.out
                · rw [hins, enVs_append, enVs_cons, ← List.append_assoc]; exact own_mono HO4.out (by have := HX.out.size; have := Hb0.out.size; omega)
              have HR := Lib.hid hres
              have HbF := Lib.hid (Hb0.out.trans ((HX.out.trans (HB4.out.mono HX.out.size)).mono Hb0.out.size))
              clear hres
              go_wp2_with fail
              go_ret2
              exact ⟨A9, _, c9, by rw [HR.out.2.1]; rfl, HR.out.1, hc9, .inr HR.out.2.2, fun h => absurd h (own_someR HO4.out (by omega)), HbF.out⟩
      · obtain rfl : k = n := by omega
        obtain rfl : k = rk := by omega
        have d1 : decide (k < k) = false := by simp
        have HNe := Lib.hid (newE_end (Hl.out.trans Hrk.out) Hoke.out)
        have hX0 := HB0.out
        have hrB := Hr.out
        clear hkn
        go_wp2_with fail
        go_quiet (fail)
        go_wp2_with fail
        go_quiet (fail)
        go_wp2_with fail
        refine wp_worldR (B := W0.heap.size) (W := W0) ?_ (by repeat (first | exact hX0 | refine below_drewN ?_ _))
        intro X hX
        have hk2 : (k : Int) ≤ (k : Int) := by omega
        have hk3 : (k : Int) ≤ (c : Int) := by omega
        have hXs : W0.heap.size ≤ X.heap.size := hX.size
        have hlX : SlR X X.heap.size 3 A k (enVs l) := (hrB.below (hX.mono hBs)).more (by omega)
        have hEX := HE.out.below hX HE.out.lt
        have hF : ∀ wy, Below X.heap.size X wy → SlR wy X.heap.size 3 A k (enVs (l.take k)) := fun wy h => by
          have := (hlX.below h).first (m := k) (by omega)
          rwa [enVs_take] at this
        have hd0 : l.drop k = [] := List.drop_of_length_le (Nat.le_of_eq Hl.out)
        have hC : ∀ (A3 : Option Addr) wy, Below X.heap.size X wy → SlR wy X.heap.size 3 A3 0 (enVs (l.drop k)) := fun A3 wy h => by
          rw [hd0]; exact SlR.nil _ _ _ _
        have hEc : ∀ wy, Below X.heap.size X wy → wy.cell? ⟨w.heap.size, 0, none⟩ = some (.int .i64 e0) ∧ wy.cell? ⟨w.heap.size, 1, none⟩ = some (.int .i64 e1) ∧ wy.cell? ⟨w.heap.size, 2, none⟩ = some (.int .i64 e2) := fun wy h => by
          have f := (hEX.below h hEX.lt).cell
          exact ⟨f 0, f 1, f 2⟩
        have HF := Lib.hid hF; have HC := Lib.hid hC; have HEc := Lib.hid hEc; have HX := Lib.hid hX
        obtain ⟨z0, z1, z2⟩ := hEc X (Below.refl _ _)
        have hA0 : A = none → k = 0 := fun h => by
          apply Classical.byContradiction
          intro hk
          obtain ⟨ad, h2, _⟩ := hrB.cells (by omega)
          rw [h] at h2; cases h2
        clear hlX hEX hF hC hEc hX g0 g1 g2 hd0 hX0 hrB
        cases A with
        | none =>
          obtain rfl := hA0 rfl
          obtain rfl := hnil rfl
          have HXa := Lib.hid ((Below.refl X.heap.size X).alloc (Nat.le_refl _) (.cells #[.int .i64 e0, .int .i64 e1, .int .i64 e2] 56))
          have tok1 : True := trivial
          have tok2 : True := trivial
          go_region_law (first
            | (have _t := tok1; clear tok1 _t; refine step_append_sl (by rfl) (.const (.slice none 0 0)) (.tmp 50) _ (by rfl) X.heap.size 56 i0 _ 3 24 Tryz.underlying24 hi0 hz0 hz1 hz2 rfl (by omega) (.slice none 0 0) 0 [] (by simp [Act.eval]) (World.ownsRow_nil _ _ _ _) X.heap.size none 0 0 (enVs (l.take 0)) (by simp [Act.eval, Act.put]) (HF.out _ (by repeat (first | exact Below.refl _ _ | refine Below.drew ?_))) (enVs_one _) (by simp only [maxLen]; omega) (by omega) (by simp <;> omega) ?_; intro va wa hown1 hg1 hat1; have HA : Hid (Below X.heap.size X wa) := Lib.hid (((Below.refl _ _).drew).grown hg1 (by simp <;> omega) (by simp [Value.ownBlock])); simp only [Nat.zero_add, List.nil_append] at hown1; have HO := Lib.hid hown1; have tokA : True := trivial; obtain ⟨y0, y1, y2⟩ := HEc.out wa HA.out; clear hown1 hg1 hat1)
            | (have _t := tok1; clear tok1 _t; refine step_append_sl (by rfl) (.const (.slice none 0 0)) (.tmp 50) _ (by rfl) X.heap.size 56 i0 _ 3 24 Tryz.underlying24 hi0 hz0 hz1 hz2 rfl (by omega) (.slice none 0 0) 0 [] (by simp [Act.eval]) (World.ownsRow_nil _ _ _ _) X.heap.size none 0 0 (enVs (l.take 0)) (by simp [Act.eval, Act.put]) (HF.out _ (HXa.out.drew)) (enVs_one _) (by simp only [maxLen]; omega) (by omega) (by simp <;> omega) ?_; intro va wa hown1 hg1 hat1; have HA : Hid (Below X.heap.size X wa) := Lib.hid ((HXa.out.drew).grown hg1 (by simp <;> omega) (by simp [Value.ownBlock])); have HK : Hid (BlkIs wa X.heap.size 56 #[.int .i64 e0, .int .i64 e1, .int .i64 e2]) := Lib.hid (((BlkIs.new X _ _).drew).grown hg1 (by simp [Value.ownBlock])); simp only [Nat.zero_add, List.nil_append] at hown1; have HO := Lib.hid hown1; obtain ⟨y0, y1, y2⟩ := HEc.out wa HA.out; clear hown1 hg1 hat1)
            | (have _t := tok2; have _t2 := tokA; clear tok2 _t; refine step_append_lies _ (by rfl) (.tmp 51) (.tmp 53) _ (by rfl) X.heap.size 56 i0 _ 3 24 Tryz.underlying24 hi0 hz0 hz1 hz2 rfl (by omega) va 0 (enVs (l.take 0)) (by simp [Act.eval, Act.put]) (by exact HO.out.alloc _) ⟨wa.heap.size, 0, none⟩ 1 1 (enC (e0, e1, e2)) (by simp [Act.eval, Act.put]) (by rfl) (World.news_of_block (cs := #[.int .i64 e0, .int .i64 e1, .int .i64 e2]) (heap_alloc_new wa _)) (enC_one _) (by omega) (by simp only [maxLen]; omega) (by omega) (by have := HA.out.size; simp <;> omega) _ rfl ?_; intro g3 c3 w3 hown3 hgrow3 hat3 hlt3; have HA3 : Hid (Below X.heap.size X w3) := Lib.hid ((HA.out.alloc HA.out.size _).grown hgrow3 (by have := HA.out.size; simp <;> omega) (fun q hq => (HO.out.lt q hq).1)); have HO3 := Lib.hid hown3; clear hown3 hgrow3 hat3 hlt3)
            | (have _t := tok2; have _t2 := HK; clear tok2 _t; refine step_append_lies _ (by rfl) (.tmp 51) (.tmp 53) _ (by rfl) X.heap.size 56 i0 _ 3 24 Tryz.underlying24 hi0 hz0 hz1 hz2 rfl (by omega) va 0 (enVs (l.take 0)) (by simp [Act.eval, Act.put]) (by first | exact HO.out | exact HO.out.drew) ⟨X.heap.size, 0, none⟩ 1 1 (enC (e0, e1, e2)) (by simp [Act.eval, Act.put]) (by rfl) (World.news_of_block (cs := #[.int .i64 e0, .int .i64 e1, .int .i64 e2]) (by first | exact HK.out | exact HK.out.drew)) (enC_one _) (by omega) (by simp only [maxLen]; omega) (by omega) (by have := HA.out.size; simp <;> omega) _ rfl ?_; intro g3 c3 w3 hown3 hgrow3 hat3 hlt3; have HA3 : Hid (Below X.heap.size X w3) := Lib.hid (HA.out.grown hgrow3 HA.out.size (fun q hq => (HO.out.lt q hq).1)); have HO3 := Lib.hid hown3; clear hown3 hgrow3 hat3 hlt3)
            | (refine step_append_sl (by rfl) (.tmp 54) (.tmp 57) _ (by rfl) X.heap.size 56 i0 _ 3 24 Tryz.underlying24 hi0 hz0 hz1 hz2 rfl (by omega) (.slice (some ⟨g3, 0, none⟩) (0 + 1) c3) (0 + 1) (enVs (l.take 0) ++ enC (e0, e1, e2)) (by simp [Act.eval, Act.put]) (by first | exact HO3.out | exact HO3.out.drew) X.heap.size none 0 0 (enVs (l.drop 0)) (by simp [Act.eval, Act.put]) (HC.out _ _ (by first | exact HA3.out | exact HA3.out.drew)) (enVs_one _) (by simp only [maxLen]; omega) (by omega) (by have := HA3.out.size; simp <;> omega) ?_; intro vb wb hown4 hg4 hat4; have HB4 : Hid (Below X.heap.size X wb) := Lib.hid (HA3.out.grown hg4 HA3.out.size (fun q hq => (HO3.out.lt q hq).1)); obtain ⟨A9, c9, rfl, hc9⟩ := own_slice hown4; have HO4 := Lib.hid hown4; clear hown4 hg4 hat4))
          all_goals
            have hres : (SlR wb wb.heap.size 3 A9 (0 + 1 + 0) (enVs (insE l (e0, e1, e2)))) ∧ newE l (e0, e1, e2) = true ∧ wb.ownsRow w.heap.size 56 3 (.slice A9 (0 + 1 + 0) c9) (0 + 1 + 0) (enVs (insE l (e0, e1, e2))) := by
              have hne := HNe.out
              have hins : insE l (e0, e1, e2) = l.take 0 ++ (e0, e1, e2) :: l.drop 0 := by unfold insE; rw [hne, if_pos rfl, ← Hrk.out]
              refine ⟨?_, hne, ?_⟩
              · rw [hins, enVs_append, enVs_cons, ← List.append_assoc]; exact SlR.own HO4.out
              · rw [hins, enVs_append, enVs_cons, ← List.append_assoc]; exact own_mono HO4.out (by have := HX.out.size; have := Hb0.out.size; omega)
            have HR := Lib.hid hres
            have HbF := Lib.hid (Hb0.out.trans ((HX.out.trans (HB4.out.mono HX.out.size)).mono Hb0.out.size))
            clear hres
            go_wp2_with fail
            go_ret2
            exact ⟨A9, _, c9, by rw [HR.out.2.1]; rfl, HR.out.1, hc9, .inr HR.out.2.2, fun h => absurd h (own_someR HO4.out (by omega)), HbF.out⟩
        | some ad =>
          by_cases hck : c = k
          · subst hck
            have HXa := Lib.hid ((Below.refl X.heap.size X).alloc (Nat.le_refl _) (.cells #[.int .i64 e0, .int .i64 e1, .int .i64 e2] 56))
            have tok1 : True := trivial
            have tok2 : True := trivial
            go_region_law (first
              | (have _t := tok1; clear tok1 _t; refine step_append_sl (by rfl) (.const (.slice none 0 0)) (.tmp 50) _ (by rfl) X.heap.size 56 i0 _ 3 24 Tryz.underlying24 hi0 hz0 hz1 hz2 rfl (by omega) (.slice none 0 0) 0 [] (by simp [Act.eval]) (World.ownsRow_nil _ _ _ _) X.heap.size (some ad) c c (enVs (l.take c)) (by simp [Act.eval, Act.put]) (HF.out _ (by repeat (first | exact Below.refl _ _ | refine Below.drew ?_))) (enVs_one _) (by simp only [maxLen]; omega) (by omega) (by simp <;> omega) ?_; intro va wa hown1 hg1 hat1; have HA : Hid (Below X.heap.size X wa) := Lib.hid (((Below.refl _ _).drew).grown hg1 (by simp <;> omega) (by simp [Value.ownBlock])); simp only [Nat.zero_add, List.nil_append] at hown1; have HO := Lib.hid hown1; have tokA : True := trivial; obtain ⟨y0, y1, y2⟩ := HEc.out wa HA.out; clear hown1 hg1 hat1)
              | (have _t := tok1; clear tok1 _t; refine step_append_sl (by rfl) (.const (.slice none 0 0)) (.tmp 50) _ (by rfl) X.heap.size 56 i0 _ 3 24 Tryz.underlying24 hi0 hz0 hz1 hz2 rfl (by omega) (.slice none 0 0) 0 [] (by simp [Act.eval]) (World.ownsRow_nil _ _ _ _) X.heap.size (some ad) c c (enVs (l.take c)) (by simp [Act.eval, Act.put]) (HF.out _ (HXa.out.drew)) (enVs_one _) (by simp only [maxLen]; omega) (by omega) (by simp <;> omega) ?_; intro va wa hown1 hg1 hat1; have HA : Hid (Below X.heap.size X wa) := Lib.hid ((HXa.out.drew).grown hg1 (by simp <;> omega) (by simp [Value.ownBlock])); have HK : Hid (BlkIs wa X.heap.size 56 #[.int .i64 e0, .int .i64 e1, .int .i64 e2]) := Lib.hid (((BlkIs.new X _ _).drew).grown hg1 (by simp [Value.ownBlock])); simp only [Nat.zero_add, List.nil_append] at hown1; have HO := Lib.hid hown1; obtain ⟨y0, y1, y2⟩ := HEc.out wa HA.out; clear hown1 hg1 hat1)
              | (have _t := tok2; have _t2 := tokA; clear tok2 _t; refine step_append_lies _ (by rfl) (.tmp 51) (.tmp 53) _ (by rfl) X.heap.size 56 i0 _ 3 24 Tryz.underlying24 hi0 hz0 hz1 hz2 rfl (by omega) va c (enVs (l.take c)) (by simp [Act.eval, Act.put]) (by exact HO.out.alloc _) ⟨wa.heap.size, 0, none⟩ 1 1 (enC (e0, e1, e2)) (by simp [Act.eval, Act.put]) (by rfl) (World.news_of_block (cs := #[.int .i64 e0, .int .i64 e1, .int .i64 e2]) (heap_alloc_new wa _)) (enC_one _) (by omega) (by simp only [maxLen]; omega) (by omega) (by have := HA.out.size; simp <;> omega) _ rfl ?_; intro g3 c3 w3 hown3 hgrow3 hat3 hlt3; have HA3 : Hid (Below X.heap.size X w3) := Lib.hid ((HA.out.alloc HA.out.size _).grown hgrow3 (by have := HA.out.size; simp <;> omega) (fun q hq => (HO.out.lt q hq).1)); have HO3 := Lib.hid hown3; clear hown3 hgrow3 hat3 hlt3)
              | (have _t := tok2; have _t2 := HK; clear tok2 _t; refine step_append_lies _ (by rfl) (.tmp 51) (.tmp 53) _ (by rfl) X.heap.size 56 i0 _ 3 24 Tryz.underlying24 hi0 hz0 hz1 hz2 rfl (by omega) va c (enVs (l.take c)) (by simp [Act.eval, Act.put]) (by first | exact HO.out | exact HO.out.drew) ⟨X.heap.size, 0, none⟩ 1 1 (enC (e0, e1, e2)) (by simp [Act.eval, Act.put]) (by rfl) (World.news_of_block (cs := #[.int .i64 e0, .int .i64 e1, .int .i64 e2]) (by first | exact HK.out | exact HK.out.drew)) (enC_one _) (by omega) (by simp only [maxLen]; omega) (by omega) (by have := HA.out.size; simp <;> omega) _ rfl ?_; intro g3 c3 w3 hown3 hgrow3 hat3 hlt3; have HA3 : Hid (Below X.heap.size X w3) := Lib.hid (HA.out.grown hgrow3 HA.out.size (fun q hq => (HO.out.lt q hq).1)); have HO3 := Lib.hid hown3; clear hown3 hgrow3 hat3 hlt3)
              | (refine step_append_sl (by rfl) (.tmp 54) (.tmp 57) _ (by rfl) X.heap.size 56 i0 _ 3 24 Tryz.underlying24 hi0 hz0 hz1 hz2 rfl (by omega) (.slice (some ⟨g3, 0, none⟩) (c + 1) c3) (c + 1) (enVs (l.take c) ++ enC (e0, e1, e2)) (by simp [Act.eval, Act.put]) (by first | exact HO3.out | exact HO3.out.drew) X.heap.size (some ad) 0 0 (enVs (l.drop c)) (by simp [Act.eval, Act.put]) (HC.out _ _ (by first | exact HA3.out | exact HA3.out.drew)) (enVs_one _) (by simp only [maxLen]; omega) (by omega) (by have := HA3.out.size; simp <;> omega) ?_; intro vb wb hown4 hg4 hat4; have HB4 : Hid (Below X.heap.size X wb) := Lib.hid (HA3.out.grown hg4 HA3.out.size (fun q hq => (HO3.out.lt q hq).1)); obtain ⟨A9, c9, rfl, hc9⟩ := own_slice hown4; have HO4 := Lib.hid hown4; clear hown4 hg4 hat4))
            all_goals
              have hres : (SlR wb wb.heap.size 3 A9 (c + 1 + 0) (enVs (insE l (e0, e1, e2)))) ∧ newE l (e0, e1, e2) = true ∧ wb.ownsRow w.heap.size 56 3 (.slice A9 (c + 1 + 0) c9) (c + 1 + 0) (enVs (insE l (e0, e1, e2))) := by
                have hne := HNe.out
                have hins : insE l (e0, e1, e2) = l.take c ++ (e0, e1, e2) :: l.drop c := by unfold insE; rw [hne, if_pos rfl, ← Hrk.out]
                refine ⟨?_, hne, ?_⟩
                · rw [hins, enVs_append, enVs_cons, ← List.append_assoc]; exact SlR.own HO4.out
                · rw [hins, enVs_append, enVs_cons, ← List.append_assoc]; exact own_mono HO4.out (by have := HX.out.size; have := Hb0.out.size; omega)
              have HR := Lib.hid hres
              have HbF := Lib.hid (Hb0.out.trans ((HX.out.trans (HB4.out.mono HX.out.size)).mono Hb0.out.size))
              clear hres
              go_wp2_with fail
              go_ret2
              exact ⟨A9, _, c9, by rw [HR.out.2.1]; rfl, HR.out.1, hc9, .inr HR.out.2.2, fun h => absurd h (own_someR HO4.out (by omega)), HbF.out⟩
          · skip
            have HXa := Lib.hid ((Below.refl X.heap.size X).alloc (Nat.le_refl _) (.cells #[.int .i64 e0, .int .i64 e1, .int .i64 e2] 56))
            have tok1 : True := trivial
            have tok2 : True := trivial
            go_region_law (first
              | (have _t := tok1; clear tok1 _t; refine step_append_sl (by rfl) (.const (.slice none 0 0)) (.tmp 50) _ (by rfl) X.heap.size 56 i0 _ 3 24 Tryz.underlying24 hi0 hz0 hz1 hz2 rfl (by omega) (.slice none 0 0) 0 [] (by simp [Act.eval]) (World.ownsRow_nil _ _ _ _) X.heap.size (some ad) k c (enVs (l.take k)) (by simp [Act.eval, Act.put]) (HF.out _ (by repeat (first | exact Below.refl _ _ | refine Below.drew ?_))) (enVs_one _) (by simp only [maxLen]; omega) (by omega) (by simp <;> omega) ?_; intro va wa hown1 hg1 hat1; have HA : Hid (Below X.heap.size X wa) := Lib.hid (((Below.refl _ _).drew).grown hg1 (by simp <;> omega) (by simp [Value.ownBlock])); simp only [Nat.zero_add, List.nil_append] at hown1; have HO := Lib.hid hown1; have tokA : True := trivial; obtain ⟨y0, y1, y2⟩ := HEc.out wa HA.out; clear hown1 hg1 hat1)
              | (have _t := tok1; clear tok1 _t; refine step_append_sl (by rfl) (.const (.slice none 0 0)) (.tmp 50) _ (by rfl) X.heap.size 56 i0 _ 3 24 Tryz.underlying24 hi0 hz0 hz1 hz2 rfl (by omega) (.slice none 0 0) 0 [] (by simp [Act.eval]) (World.ownsRow_nil _ _ _ _) X.heap.size (some ad) k c (enVs (l.take k)) (by simp [Act.eval, Act.put]) (HF.out _ (HXa.out.drew)) (enVs_one _) (by simp only [maxLen]; omega) (by omega) (by simp <;> omega) ?_; intro va wa hown1 hg1 hat1; have HA : Hid (Below X.heap.size X wa) := Lib.hid ((HXa.out.drew).grown hg1 (by simp <;> omega) (by simp [Value.ownBlock])); have HK : Hid (BlkIs wa X.heap.size 56 #[.int .i64 e0, .int .i64 e1, .int .i64 e2]) := Lib.hid (((BlkIs.new X _ _).drew).grown hg1 (by simp [Value.ownBlock])); simp only [Nat.zero_add, List.nil_append] at hown1; have HO := Lib.hid hown1; obtain ⟨y0, y1, y2⟩ := HEc.out wa HA.out; clear hown1 hg1 hat1)
              | (have _t := tok2; have _t2 := tokA; clear tok2 _t; refine step_append_lies _ (by rfl) (.tmp 51) (.tmp 53) _ (by rfl) X.heap.size 56 i0 _ 3 24 Tryz.underlying24 hi0 hz0 hz1 hz2 rfl (by omega) va k (enVs (l.take k)) (by simp [Act.eval, Act.put]) (by exact HO.out.alloc _) ⟨wa.heap.size, 0, none⟩ 1 1 (enC (e0, e1, e2)) (by simp [Act.eval, Act.put]) (by rfl) (World.news_of_block (cs := #[.int .i64 e0, .int .i64 e1, .int .i64 e2]) (heap_alloc_new wa _)) (enC_one _) (by omega) (by simp only [maxLen]; omega) (by omega) (by have := HA.out.size; simp <;> omega) _ rfl ?_; intro g3 c3 w3 hown3 hgrow3 hat3 hlt3; have HA3 : Hid (Below X.heap.size X w3) := Lib.hid ((HA.out.alloc HA.out.size _).grown hgrow3 (by have := HA.out.size; simp <;> omega) (fun q hq => (HO.out.lt q hq).1)); have HO3 := Lib.hid hown3; clear hown3 hgrow3 hat3 hlt3)
              | (have _t := tok2; have _t2 := HK; clear tok2 _t; refine step_append_lies _ (by rfl) (.tmp 51) (.tmp 53) _ (by rfl) X.heap.size 56 i0 _ 3 24 Tryz.underlying24 hi0 hz0 hz1 hz2 rfl (by omega) va k (enVs (l.take k)) (by simp [Act.eval, Act.put]) (by first | exact HO.out | exact HO.out.drew) ⟨X.heap.size, 0, none⟩ 1 1 (enC (e0, e1, e2)) (by simp [Act.eval, Act.put]) (by rfl) (World.news_of_block (cs := #[.int .i64 e0, .int .i64 e1, .int .i64 e2]) (by first | exact HK.out | exact HK.out.drew)) (enC_one _) (by omega) (by simp only [maxLen]; omega) (by omega) (by have := HA.out.size; simp <;> omega) _ rfl ?_; intro g3 c3 w3 hown3 hgrow3 hat3 hlt3; have HA3 : Hid (Below X.heap.size X w3) := Lib.hid (HA.out.grown hgrow3 HA.out.size (fun q hq => (HO.out.lt q hq).1)); have HO3 := Lib.hid hown3; clear hown3 hgrow3 hat3 hlt3)
              | (refine step_append_sl (by rfl) (.tmp 54) (.tmp 57) _ (by rfl) X.heap.size 56 i0 _ 3 24 Tryz.underlying24 hi0 hz0 hz1 hz2 rfl (by omega) (.slice (some ⟨g3, 0, none⟩) (k + 1) c3) (k + 1) (enVs (l.take k) ++ enC (e0, e1, e2)) (by simp [Act.eval, Act.put]) (by first | exact HO3.out | exact HO3.out.drew) X.heap.size (some (ad.add (k * 3))) 0 (c - k) (enVs (l.drop k)) (by simp [Act.eval, Act.put]) (HC.out _ _ (by first | exact HA3.out | exact HA3.out.drew)) (enVs_one _) (by simp only [maxLen]; omega) (by omega) (by have := HA3.out.size; simp <;> omega) ?_; intro vb wb hown4 hg4 hat4; have HB4 : Hid (Below X.heap.size X wb) := Lib.hid (HA3.out.grown hg4 HA3.out.size (fun q hq => (HO3.out.lt q hq).1)); obtain ⟨A9, c9, rfl, hc9⟩ := own_slice hown4; have HO4 := Lib.hid hown4; clear hown4 hg4 hat4))
            all_goals
              have hres : (SlR wb wb.heap.size 3 A9 (k + 1 + 0) (enVs (insE l (e0, e1, e2)))) ∧ newE l (e0, e1, e2) = true ∧ wb.ownsRow w.heap.size 56 3 (.slice A9 (k + 1 + 0) c9) (k + 1 + 0) (enVs (insE l (e0, e1, e2))) := by
                have hne := HNe.out
                have hins : insE l (e0, e1, e2) = l.take k ++ (e0, e1, e2) :: l.drop k := by unfold insE; rw [hne, if_pos rfl, ← Hrk.out]
                refine ⟨?_, hne, ?_⟩
                · rw [hins, enVs_append, enVs_cons, ← List.append_assoc]; exact SlR.own HO4.out
                · rw [hins, enVs_append, enVs_cons, ← List.append_assoc]; exact own_mono HO4.out (by have := HX.out.size; have := Hb0.out.size; omega)
              have HR := Lib.hid hres
              have HbF := Lib.hid (Hb0.out.trans ((HX.out.trans (HB4.out.mono HX.out.size)).mono Hb0.out.size))
              clear hres
              go_wp2_with fail
              go_ret2
              exact ⟨A9, _, c9, by rw [HR.out.2.1]; rfl, HR.out.1, hc9, .inr HR.out.2.2, fun h => absurd h (own_someR HO4.out (by omega)), HbF.out⟩
  · have hnew : newE l (e0, e1, e2) = false := by
      have : okE (e0, e1, e2) = false := by unfold okE; exact decide_eq_false hok
      unfold newE; rw [this, Bool.and_false]
    have hins : insE l (e0, e1, e2) = l := by unfold insE; rw [hnew]; rfl
    rw [hnew, hins]
    have hrW := hr0.more hBs
    have Hr := Lib.hid hrW; have Hb0 := Lib.hid hb0
    have hc : (¬ 0 ≤ e0) ∨ (0 ≤ e0 ∧ ¬ 0 ≤ e1) ∨ (0 ≤ e0 ∧ 0 ≤ e1 ∧ ¬ 0 ≤ e2) := by omega
    clear hr hr0 hrW hb0 hE hnew hins hok hl
    rcases hc with h1 | ⟨h0, h1⟩ | ⟨h0, h0', h1⟩
    all_goals
      go_enter Tryz.func79, Tryz.ntmps79
      go_wp2_with fail
      (try rw [hW0])
      go_ret2
      exact ⟨A, n, c, rfl, Hr.out, hnc, .inl ⟨rfl, rfl, rfl⟩, hnil, Hb0.out⟩
end Go.Proofs.YtfkkcgdniepgoaaGreat
