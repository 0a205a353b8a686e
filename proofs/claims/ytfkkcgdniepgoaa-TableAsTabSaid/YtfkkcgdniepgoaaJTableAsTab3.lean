/- joined texts. -/
import Derived.Test.YtfkkcgdniepgoaaJTableAsTab1
import Derived.Test.YtfkkcgdniepgoaaJTableAsTab2
/- chapter 13: from's second search, whatever its bounds are. -/
namespace Go.Proofs.Ytfkkcgdniepgoaa
open Go.RowKit
set_option maxHeartbeats 4000000
set_option maxRecDepth 100000
set_option linter.unusedVariables false

theorem sortSearch_neg (v : Value) (D : Int) (w : World) (hD : D < 0) (hD2 : -1000000 < D) :
    Calls Try.prog 58 #[.int .i64 D, v] w fun x w' => x = .returned (.int .i64 ((0 : Nat) : Int)) ∧ Below w.heap.size w w' := by
  have hd : decide (0 < D) = false := decide_eq_false (by omega)
  go_enter Try.func58, Try.ntmps58
  go_wp2_with fail
  go_loopw [5, 6] (fun i j wr => i = .int .i64 0 ∧ j = .int .i64 D ∧ w = wr) (fun i j _ => (intOf j - intOf i).toNat)
  case atStart => exact ⟨rfl, rfl, rfl⟩
  case round =>
    obtain ⟨rfl, rfl, rfl⟩ := hrel
    go_wp2_with fail
    go_ret
    exact ⟨rfl, Below.refl _ _⟩

theorem fromTwo_search (M O E : Nat) (A : Option Addr) (n c B o R : Nat) (hi : Int) (l : List En) (e : En) (Y : World) (hM : BlkIs Y M 22 #[.slice A n c]) (hO : BlkIs Y O 3 #[.int .i64 (o : Int)]) (hE : BlkIs Y E 33 #[.int .i64 e.1, .int .i64 e.2.1, .int .i64 e.2.2]) (hr : SlR Y B 3 A n (enVs l)) (hB : B ≤ Y.heap.size) (hn : n ≤ 1000000) (hl : l.length = n) (ho : o ≤ n + 8)
    (hlt : ∀ (i : Nat) (x : En), l[i]? = some x → ltE x e = decide (i < R)) (hh : (o ≤ R ∧ (R : Int) ≤ hi ∧ hi ≤ n) ∨ (hi < o ∧ hi = n ∧ R = n)) :
    ∃ q : Nat, (o + q = R ∨ R = n ∧ n < o + q) ∧ o + q ≤ n + 8 ∧ ∀ wx, Below Y.heap.size Y wx → Calls Try.prog 58 #[.int .i64 (hi - (o : Int)), .func (.func 60) #[] #[.pointer (some ⟨M, 0, none⟩), .pointer (some ⟨O, 0, none⟩), .pointer (some ⟨E, 0, none⟩)]] wx fun x w' => x = .returned (.int .i64 (q : Int)) ∧ Below wx.heap.size wx w' := by
  rcases hh with ⟨h1, h2, h3⟩ | ⟨h1, h2, h3⟩
  · obtain ⟨N, hN⟩ : ∃ N : Nat, hi - (o : Int) = (N : Int) := ⟨(hi - o).toNat, by omega⟩
    refine ⟨R - o, .inl (by omega), by omega, fun wy hy => ?_⟩
    rw [hN]
    refine sortSearch_two _ _ _ N (R - o) wy (by omega) (by omega) (fun k hk wx hb => ?_)
    have hx : l[o + k]? = some (l[o + k]'(by omega)) := List.getElem?_eq_getElem _
    have hYx := hy.trans (hb.mono hy.size)
    refine (fromTwo_any M O E A n c B o k l _ e wx (hM.below hYx hM.lt) (hO.below hYx hO.lt) (hE.below hYx hE.lt) (hr.below (hYx.mono hB)) (Nat.le_trans hB hYx.size) hn (by omega) hx).mono ?_
    rintro z w' ⟨rfl, hb'⟩
    refine ⟨?_, hb'⟩
    rw [hlt _ _ hx]
    by_cases h : R - o ≤ k
    · rw [decide_eq_true h, decide_eq_false (by omega)]; rfl
    · rw [decide_eq_false h, decide_eq_true (by omega)]; rfl
  · exact ⟨0, .inr ⟨h3, by omega⟩, by omega, fun wx hb => sortSearch_neg _ _ wx (by omega) (by omega)⟩
end Go.Proofs.Ytfkkcgdniepgoaa

/- chapter 13: from, the place where a search among a table's entries begins. -/
namespace Go.Proofs.Ytfkkcgdniepgoaa
open Go.RowKit
set_option maxHeartbeats 4000000
set_option maxRecDepth 100000
set_option linter.unusedVariables false

theorem tblFrom_any (base T : Nat) (l : List En) (e : En) (w : World) (h : TblIs w base T l) (hn : l.length ≤ 1000000) (hs : SortedE l) :
    Calls Try.prog 41 #[.pointer (some ⟨T, 0, none⟩), enA e] w fun x w' => ∃ p : Nat, x = .returned (.int .i64 (p : Int)) ∧ (p = rankE l e ∨ rankE l e = l.length ∧ l.length < p) ∧ p ≤ l.length + 8 ∧ Below w.heap.size w w' := by
  obtain ⟨e0, e1, e2⟩ := e
  obtain ⟨W, hW⟩ : ∃ W, w.alloc (.cells #[.int .i64 e0, .int .i64 e1, .int .i64 e2] 33) = W := ⟨_, rfl⟩
  have hb0 : Below w.heap.size w W := by rw [← hW]; exact (Below.refl _ _).alloc (Nat.le_refl _) _
  have hmi := tblMids_any base T l W (h.below hb0 (Nat.le_refl _)) hn
  have HTt := Lib.hid h; have Hmi := Lib.hid hmi
  clear h hmi
  unfold enA
  dsimp only
  go_enter Try.func41, Try.ntmps41
  go_wp2_with fail
  (try rw [hW])
  refine Hmi.out.mono ?_
  rintro x w1 ⟨u, rfl, hown1, hb1⟩
  obtain ⟨A, c, rfl, hnc⟩ := own_slice hown1
  have Hr := Lib.hid (SlR.own hown1)
  have hms : midsE l = midsE l := rfl
  have hml : (midsE l).length ≤ l.length := midsTo_length l l.length
  have hmS := mids_sorted hs
  have hbW : Below w.heap.size w w1 := hb0.trans (hb1.mono hb0.size)
  have HE1 := Lib.hid ((show BlkIs W w.heap.size 33 #[.int .i64 e0, .int .i64 e1, .int .i64 e2] from by rw [← hW]; exact BlkIs.new _ _ _).below hb1 (show w.heap.size < W.heap.size from by rw [← hW]; simp))
  have hbd := mids_bounds hs (e0, e1, e2)
  have hml2 := mids_length_le l
  have hRl := rank_le l (e0, e1, e2)
  have hlt2 : ∀ (i : Nat) (x : En), l[i]? = some x → ltE x (e0, e1, e2) = decide (i < rankE l (e0, e1, e2)) := fun i x h => rank_lt hs (e0, e1, e2) h
  have Hlt2 := Lib.hid hlt2
  clear hlt2
  generalize hRe : rankE l (e0, e1, e2) = R at hbd hRl Hlt2
  have HRe := Lib.hid hRe
  clear hRe
  generalize midsE l = ms at Hr hml hmS hbd hml2
  have hrk := rank_le ms (e0, e1, e2)
  have hrl : ∀ (i : Nat) (x : En), ms[i]? = some x → ltE x (e0, e1, e2) = decide (i < rankE ms (e0, e1, e2)) := fun i x h => rank_lt hmS (e0, e1, e2) h
  generalize rankE ms (e0, e1, e2) = r1 at hrk hrl hbd
  obtain ⟨hbd1, hbd2, hbd3⟩ := hbd
  have Hrl := Lib.hid hrl
  have HbW := Lib.hid hbW
  clear hown1 hrl hbW hb0 hmS hms
  go_wp2_with fail
  obtain ⟨X, hX⟩ : ∃ X, w1.alloc (.cells #[.slice A ms.length c] 22) = X := ⟨_, rfl⟩
  have hXb : Below w1.heap.size w1 X := by rw [← hX]; exact (Below.refl _ _).alloc (Nat.le_refl _) _
  have hXM : BlkIs X w1.heap.size 22 #[.slice A ms.length c] := by rw [← hX]; exact BlkIs.new _ _ _
  have hXE := HE1.out.below hXb HE1.out.lt
  have hXr := Hr.out.below hXb
  rw [hX]
  refine (sortSearch_one _ _ ms.length r1 X hrk (by omega) (fun k hk wx hb => ?_)).mono ?_
  · have hx : ms[k]? = some ms[k] := List.getElem?_eq_getElem hk
    refine (fromOne_any w1.heap.size w.heap.size A ms.length c w1.heap.size k ms ms[k] (e0, e1, e2) wx (hXM.below hb hXM.lt) (hXE.below hb hXE.lt) (hXr.below (hb.mono hXb.size)) (Nat.le_trans hXb.size hb.size) (by omega) hk hx).mono ?_
    rintro z w' ⟨rfl, hb'⟩
    refine ⟨?_, hb'⟩
    rw [Hrl.out k _ hx]
    by_cases h : k < r1
    · rw [decide_eq_true h, decide_eq_false (by omega)]; rfl
    · rw [decide_eq_false h, decide_eq_true (by omega)]; rfl
  rintro x w2 ⟨rfl, hb2⟩
  have HT2 := Lib.hid (HTt.out.below ((HbW.out.trans (hXb.mono HbW.out.size)).trans (hb2.mono (Nat.le_trans HbW.out.size hXb.size))) (Nat.le_refl _))
  have HE2 := Lib.hid (hXE.below hb2 hXE.lt)
  have HM2 := Lib.hid (hXM.below hb2 hXM.lt)
  have HB2 := Lib.hid ((HbW.out.trans (hXb.mono HbW.out.size)).trans (hb2.mono (Nat.le_trans HbW.out.size hXb.size)))
  have hsz2 : w.heap.size ≤ w1.heap.size := HbW.out.size
  clear hb2 hXE hXM hXr hXb
  go_wp2_with fail
  refine (tblAll_any base T l _ HT2.out hn).mono ?_
  rintro x w3 ⟨u, rfl, hown3, hb3⟩
  obtain ⟨A2, c2, rfl, hnc2⟩ := own_slice hown3
  have hr2 := SlR.own hown3
  have hE3 := HE2.out.below hb3 HE2.out.lt
  have hM3 := HM2.out.below hb3 HM2.out.lt
  have hB3 := HB2.out.trans (hb3.mono HB2.out.size)
  have hsz3 := hb3.size
  have hm3 := hM3.lt
  have he3 := hE3.lt
  clear hown3 hb3 HT2 HE2 HM2
  obtain ⟨lo, hlo⟩ : ∃ lo, (r1 - 1) * 8 = lo := ⟨_, rfl⟩
  have hloI : max ((r1 : Int) - 1) 0 * 8 = (lo : Int) := by omega
  obtain ⟨Y, hY⟩ : ∃ Y, (w3.alloc (.cells #[.slice A2 l.length c2] 22)).alloc (.cells #[.int .i64 (lo : Int)] 3) = Y := ⟨_, rfl⟩
  have hYb : Below w3.heap.size w3 Y := by rw [← hY]; exact ((Below.refl _ _).alloc (Nat.le_refl _) _).alloc (by simp) _
  have hYM : BlkIs Y w3.heap.size 22 #[.slice A2 l.length c2] := by rw [← hY]; exact (BlkIs.new _ _ _).below ((Below.refl _ _).alloc (Nat.le_refl _) _) (by simp)
  have hYO : BlkIs Y (w3.heap.size + 1) 3 #[.int .i64 (lo : Int)] := by rw [← hY]; have := BlkIs.new (w3.alloc (.cells #[.slice A2 l.length c2] 22)) 3 #[.int .i64 (lo : Int)]; simpa using this
  have hYE := hE3.below hYb he3
  have hYm := hM3.below hYb hm3
  have hYr := hr2.below hYb
  have HBY := Lib.hid (hB3.trans (hYb.mono hB3.size))
  have hS : ∀ wx, Below Y.heap.size Y wx → wx.cell? ⟨w3.heap.size + 1, 0, none⟩ = some (.int .i64 (lo : Int)) := fun wx h => (hYO.below h hYO.lt).cell 0
  have HS := Lib.hid hS
  have hm0 : (w3.alloc (.cells #[.slice A2 l.length c2] 22)).alloc (.cells #[.int .i64 (lo : Int)] 3) = Y := hY
  have hcm := hYm.cell 0
  have hcl := hYM.cell 0
  have hco := hYO.cell 0
  simp at hcm hcl hco
  have hloR : ms.length ≤ r1 + 1 → lo ≤ l.length → lo ≤ R := fun h1 h2 => by
    by_cases h : r1 < ms.length
    · have := hbd1 h; omega
    · have := hbd3 (by omega); omega
  have hloR2 : ms.length ≤ r1 + 1 → l.length < lo → R = l.length := fun h1 h2 => by
    by_cases h : r1 < ms.length
    · have := hbd1 h; omega
    · exact hbd3 (by omega)
  by_cases hc : r1 + 1 < ms.length
  · obtain ⟨q, hq1, hq2, hS2⟩ := fromTwo_search w3.heap.size (w3.heap.size + 1) w.heap.size A2 l.length c2 w3.heap.size lo R (min ((r1 : Int) * 8 + 1) (l.length : Int)) l (e0, e1, e2) Y hYM hYO hYE hYr hYb.size hn rfl (by omega) Hlt2.out (.inl ⟨by have := hbd1 (by omega); omega, by have := hbd2 hc; omega, by omega⟩)
    have HS2 := Lib.hid hS2
    have hge : decide ((ms.length : Int) - 1 ≤ (r1 : Int)) = false := by rw [decide_eq_false_iff_not]; omega
    have hc' : ¬ ((ms.length : Int) - 1 ≤ (r1 : Int)) := by omega
    have HB := Below.refl Y.heap.size Y
    clear hS2 hS hYM hYO hYE hYr hYm hr2 hE3 hlo hloR hloR2 hbd1 hbd2 hbd3 hm0 hYb hB3
    go_wp2_with fail
    obtain ⟨hi, hhi⟩ : ∃ hi : Int, min ((r1 : Int) * 8 + 1) (l.length : Int) = hi := ⟨_, rfl⟩
    (try rw [hhi] at HS2)
    (try rw [hhi])
    have hhi2 : 0 ≤ hi ∧ hi ≤ (l.length : Int) := by omega
    have hwD : IntKind.i64.wrap (hi - (lo : Int)) = hi - (lo : Int) := IntWalk.i64_in _ (by omega)
    have hwq : IntKind.i64.wrap ((lo : Int) + (q : Int)) = (lo : Int) + (q : Int) := IntWalk.i64_in _ (by omega)
    clear hge hc' hcm hcl hhi
    refine wp_region_held_drew (S := (fun wx => wx.cell? ⟨w3.heap.size + 1, 0, none⟩ = some (.int .i64 (lo : Int)))) (by kernel_rfl) (HS.out _ (below_drewN HB 1)) (fun hHeld => ?_)
    refine take_at 0 (some 35) (v := ?_) rfl (by kernel_rfl) (by kernel_rfl) (by kernel_rfl) (by kernel_rfl) (fun _ _ _ h => h) (Or.inl ⟨by kernel_rfl, ?_⟩) (by assumption) ?_
    rotate_left
    · (intro w hSw; (try dsimp only at hSw); go_simp; try with_reducible rfl)
    try simp only [Act.put, List.setIfInBounds_toArray, List.set_cons_zero, List.set_cons_succ]
    refine take_at 1 (some 36) (v := ?_) rfl (by kernel_rfl) (by kernel_rfl) (by kernel_rfl) (by kernel_rfl) (fun _ _ _ h => h) (Or.inl ⟨by kernel_rfl, ?_⟩) (by assumption) ?_
    rotate_left
    · (intro w hSw; (try dsimp only at hSw); go_simp; try with_reducible rfl)
    try simp only [Act.put, List.setIfInBounds_toArray, List.set_cons_zero, List.set_cons_succ]
    refine take_at 2 (some 37) (v := ?_) rfl (by kernel_rfl) (by kernel_rfl) (by kernel_rfl) (by kernel_rfl) (fun _ _ _ h => h) (Or.inl ⟨by kernel_rfl, ?_⟩) (by assumption) ?_
    rotate_left
    · (intro w hSw; (try dsimp only at hSw); go_simp; try with_reducible rfl)
    try simp only [Act.put, List.setIfInBounds_toArray, List.set_cons_zero, List.set_cons_succ]
    refine take_at 3 (some 38) (v := ?_) rfl (by kernel_rfl) (by kernel_rfl) (by kernel_rfl) (by kernel_rfl) (fun _ _ _ h => h) (Or.inl ⟨by kernel_rfl, ?_⟩) (by assumption) ?_
    rotate_left
    · (intro w hSw; (try dsimp only at hSw); go_simp; try with_reducible rfl)
    try simp only [Act.put, List.setIfInBounds_toArray, List.set_cons_zero, List.set_cons_succ]
    refine take_at 4 (some 39) (v := ?_) rfl (by kernel_rfl) (by kernel_rfl) (by kernel_rfl) (by kernel_rfl) (fun _ _ _ h => h) (Or.inl ⟨by kernel_rfl, ?_⟩) (by assumption) ?_
    rotate_left
    · (intro w hSw; (try dsimp only at hSw); go_simp; try with_reducible rfl)
    try simp only [Act.put, List.setIfInBounds_toArray, List.set_cons_zero, List.set_cons_succ]
    refine wpAnyH_ready (rs := [5]) (by kernel_rfl) (by simp) ?_
    refine AllReadyH.cons rfl (fun K hK => ?_) AllReadyH.nil
    go_simp
    refine (HS2.out _ (below_drewN HB 1)).mono ?_; rintro e wx ⟨rfl, hb⟩; have HB := HB.trans ((by first | exact hb | exact below_undrew hb : Below _ _ _).mono HB.size)
    first | (refine hK.out _ _ (HS.out _ HB) (fun hHeld => ?_)) | (go_wp2_with fail; refine hK.out _ _ (HS.out _ HB) (fun hHeld => ?_))
    clear hK K
    try simp only [Act.put, List.setIfInBounds_toArray, List.set_cons_zero, List.set_cons_succ]
    refine take_at 6 (some 41) (v := ?_) rfl (by kernel_rfl) (by kernel_rfl) (by kernel_rfl) (by kernel_rfl) (fun _ _ _ h => h) (Or.inl ⟨by kernel_rfl, ?_⟩) (by assumption) ?_
    rotate_left
    · (intro w hSw; (try dsimp only at hSw); go_simp; try with_reducible rfl)
    try simp only [Act.put, List.setIfInBounds_toArray, List.set_cons_zero, List.set_cons_succ]
    refine take_at 7 (some 4) (v := ?_) rfl (by kernel_rfl) (by kernel_rfl) (by kernel_rfl) (by kernel_rfl) (fun _ _ _ h => h) (Or.inl ⟨by kernel_rfl, ?_⟩) (by assumption) ?_
    rotate_left
    · (intro w hSw; (try dsimp only at hSw); go_simp; try with_reducible rfl)
    try simp only [Act.put, List.setIfInBounds_toArray, List.set_cons_zero, List.set_cons_succ]
    refine wpAnyH_done (by kernel_rfl) ?_ _
    go_wp2_with fail
    go_ret
    exact ⟨lo + q, by go_num, by rw [HRe.out]; exact hq1, hq2, HBY.out.trans (HB.mono HBY.out.size)⟩
  · obtain ⟨q, hq1, hq2, hS2⟩ := fromTwo_search w3.heap.size (w3.heap.size + 1) w.heap.size A2 l.length c2 w3.heap.size lo R (l.length : Int) l (e0, e1, e2) Y hYM hYO hYE hYr hYb.size hn rfl (by omega) Hlt2.out ((Nat.lt_or_ge l.length lo).elim (fun h => .inr ⟨by omega, rfl, hloR2 (by omega) h⟩) (fun h => .inl ⟨hloR (by omega) h, by omega, by omega⟩))
    have HS2 := Lib.hid hS2
    have hge : decide ((ms.length : Int) - 1 ≤ (r1 : Int)) = true := by rw [decide_eq_true_iff]; omega
    have hc' : (ms.length : Int) - 1 ≤ (r1 : Int) := by omega
    have HB := Below.refl Y.heap.size Y
    clear hS2 hS hYM hYO hYE hYr hYm hr2 hE3 hlo hloR hloR2 hbd1 hbd2 hbd3 hm0 hYb hB3
    go_wp2_with fail
    have hwD : IntKind.i64.wrap ((l.length : Int) - (lo : Int)) = (l.length : Int) - (lo : Int) := IntWalk.i64_in _ (by omega)
    have hwq : IntKind.i64.wrap ((lo : Int) + (q : Int)) = (lo : Int) + (q : Int) := IntWalk.i64_in _ (by omega)
    clear hge hc' hcm hcl
    refine wp_region_held_drew (S := (fun wx => wx.cell? ⟨w3.heap.size + 1, 0, none⟩ = some (.int .i64 (lo : Int)))) (by kernel_rfl) (HS.out _ (below_drewN HB 1)) (fun hHeld => ?_)
    refine take_at 0 (some 35) (v := ?_) rfl (by kernel_rfl) (by kernel_rfl) (by kernel_rfl) (by kernel_rfl) (fun _ _ _ h => h) (Or.inl ⟨by kernel_rfl, ?_⟩) (by assumption) ?_
    rotate_left
    · (intro w hSw; (try dsimp only at hSw); go_simp; try with_reducible rfl)
    try simp only [Act.put, List.setIfInBounds_toArray, List.set_cons_zero, List.set_cons_succ]
    refine take_at 1 (some 36) (v := ?_) rfl (by kernel_rfl) (by kernel_rfl) (by kernel_rfl) (by kernel_rfl) (fun _ _ _ h => h) (Or.inl ⟨by kernel_rfl, ?_⟩) (by assumption) ?_
    rotate_left
    · (intro w hSw; (try dsimp only at hSw); go_simp; try with_reducible rfl)
    try simp only [Act.put, List.setIfInBounds_toArray, List.set_cons_zero, List.set_cons_succ]
    refine take_at 2 (some 37) (v := ?_) rfl (by kernel_rfl) (by kernel_rfl) (by kernel_rfl) (by kernel_rfl) (fun _ _ _ h => h) (Or.inl ⟨by kernel_rfl, ?_⟩) (by assumption) ?_
    rotate_left
    · (intro w hSw; (try dsimp only at hSw); go_simp; try with_reducible rfl)
    try simp only [Act.put, List.setIfInBounds_toArray, List.set_cons_zero, List.set_cons_succ]
    refine take_at 3 (some 38) (v := ?_) rfl (by kernel_rfl) (by kernel_rfl) (by kernel_rfl) (by kernel_rfl) (fun _ _ _ h => h) (Or.inl ⟨by kernel_rfl, ?_⟩) (by assumption) ?_
    rotate_left
    · (intro w hSw; (try dsimp only at hSw); go_simp; try with_reducible rfl)
    try simp only [Act.put, List.setIfInBounds_toArray, List.set_cons_zero, List.set_cons_succ]
    refine take_at 4 (some 39) (v := ?_) rfl (by kernel_rfl) (by kernel_rfl) (by kernel_rfl) (by kernel_rfl) (fun _ _ _ h => h) (Or.inl ⟨by kernel_rfl, ?_⟩) (by assumption) ?_
    rotate_left
    · (intro w hSw; (try dsimp only at hSw); go_simp; try with_reducible rfl)
    try simp only [Act.put, List.setIfInBounds_toArray, List.set_cons_zero, List.set_cons_succ]
    refine wpAnyH_ready (rs := [5]) (by kernel_rfl) (by simp) ?_
    refine AllReadyH.cons rfl (fun K hK => ?_) AllReadyH.nil
    go_simp
    refine (HS2.out _ (below_drewN HB 1)).mono ?_; rintro e wx ⟨rfl, hb⟩; have HB := HB.trans ((by first | exact hb | exact below_undrew hb : Below _ _ _).mono HB.size)
    first | (refine hK.out _ _ (HS.out _ HB) (fun hHeld => ?_)) | (go_wp2_with fail; refine hK.out _ _ (HS.out _ HB) (fun hHeld => ?_))
    clear hK K
    try simp only [Act.put, List.setIfInBounds_toArray, List.set_cons_zero, List.set_cons_succ]
    refine take_at 6 (some 41) (v := ?_) rfl (by kernel_rfl) (by kernel_rfl) (by kernel_rfl) (by kernel_rfl) (fun _ _ _ h => h) (Or.inl ⟨by kernel_rfl, ?_⟩) (by assumption) ?_
    rotate_left
    · (intro w hSw; (try dsimp only at hSw); go_simp; try with_reducible rfl)
    try simp only [Act.put, List.setIfInBounds_toArray, List.set_cons_zero, List.set_cons_succ]
    refine take_at 7 (some 4) (v := ?_) rfl (by kernel_rfl) (by kernel_rfl) (by kernel_rfl) (by kernel_rfl) (fun _ _ _ h => h) (Or.inl ⟨by kernel_rfl, ?_⟩) (by assumption) ?_
    rotate_left
    · (intro w hSw; (try dsimp only at hSw); go_simp; try with_reducible rfl)
    try simp only [Act.put, List.setIfInBounds_toArray, List.set_cons_zero, List.set_cons_succ]
    refine wpAnyH_done (by kernel_rfl) ?_ _
    go_wp2_with fail
    go_ret
    exact ⟨lo + q, by go_num, by rw [HRe.out]; exact hq1, hq2, HBY.out.trans (HB.mono HBY.out.size)⟩
end Go.Proofs.Ytfkkcgdniepgoaa

