/- chapter 13: the document's Merge. -/
import Derived.Test.YtfkkcgdniepgoaaGreatCTableMergesRef12c
import Derived.Test.YtfkkcgdniepgoaaGreatJTableMerges1

namespace Go.Proofs.YtfkkcgdniepgoaaGreat
open Go.RowKit
set_option maxHeartbeats 4000000
set_option maxRecDepth 100000
set_option linter.unusedVariables false

def RowE (w : World) (B : Nat) (v : Value) (l : List En) : Prop := ∃ A c, v = .slice A l.length c ∧ SlR w B 3 A l.length (enVs l)
def flatR (rs : List (Value × List En)) : List En := rs.flatMap fun t => t.2
theorem flatR_snoc (ts : List (Value × List En)) (k : Nat) (t : Value × List En) (h : ts[k]? = some t) : flatR (ts.take (k + 1)) = flatR (ts.take k) ++ t.2 := by
  unfold flatR; rw [List.take_add_one, h, List.flatMap_append]; simp
theorem flatR_le (ts : List (Value × List En)) (k : Nat) : (flatR (ts.take k)).length ≤ (flatR ts).length := by
  unfold flatR
  conv => rhs; rw [← List.take_append_drop k ts, List.flatMap_append, List.length_append]
  omega

theorem refMerge_any (A : Option Addr) (n c B : Nat) (rs : List (Value × List En)) (w : World) (hr : SlR w B 1 A n (rs.map fun t => t.1)) (hB : B ≤ w.heap.size) (ht : ∀ t ∈ rs, RowE w w.heap.size t.1 t.2) (hn : n ≤ 1000) (hm : (flatR rs).length ≤ 1000) :
    Calls Tryz.prog 30 #[.slice A n c] w fun x w' => ∃ A' c', x = .returned (.slice A' (addsE [] (flatR rs)).length c') ∧ SlR w' w'.heap.size 3 A' (addsE [] (flatR rs)).length (enVs (addsE [] (flatR rs))) ∧ Below w.heap.size w w' := by
  have hl : rs.length = n := by have := hr.len; rw [List.length_map] at this; omega
  subst hl
  have Hr := Lib.hid hr; have Ht := Lib.hid ht
  clear hr ht
  go_enter Tryz.func30, Tryz.ntmps30
  go_wp2_with fail
  go_loopw [3, 4] (fun o i wr => ∃ (k : Nat) (A1 : Option Addr) (c1 : Nat), o = .slice A1 (addsE [] (flatR (rs.take k))).length c1 ∧ k ≤ rs.length ∧ i = .int .i64 (k : Int) ∧ Hid (SlR wr wr.heap.size 3 A1 (addsE [] (flatR (rs.take k))).length (enVs (addsE [] (flatR (rs.take k)))) ∧ (addsE [] (flatR (rs.take k))).length ≤ c1 ∧ (A1 = none → c1 = 0) ∧ Below w.heap.size w wr)) (fun _ i _ => rs.length - (intOf i).toNat)
  case atStart => exact ⟨0, _, _, rfl, Nat.zero_le _, rfl, Lib.hid ⟨SlR.nil _ _ _ _, Nat.le_refl _, fun _ => rfl, Below.refl _ _⟩⟩
  case round =>
    obtain ⟨k, A1, c1, rfl, hk, rfl, HI⟩ := hrel
    have hk0 : 0 ≤ (k : Int) := by omega
    have hbs := HI.out.2.2.2.size
    by_cases hlt : k < rs.length
    · obtain ⟨t, htk⟩ : ∃ t, rs[k]? = some t := ⟨_, List.getElem?_eq_getElem hlt⟩
      obtain ⟨At, ct, htv, hrt⟩ := Ht.out t (List.mem_of_getElem? htk)
      have hget : ∀ wx, Below w.heap.size w wx → ∃ ad, A = some ad ∧ wx.cell? (ad.add k) = some (.slice At t.2.length ct) := fun wx h => by
        obtain ⟨ad, v, hA, had, hv, hc⟩ := (Hr.out.below (h.mono hB)).get (k := k) (by omega)
        rw [List.getElem?_map, htk] at hv
        injection hv with hv
        dsimp only at hv
        rw [htv] at hv
        exact ⟨ad, hA, by rw [hc, hv]⟩
      obtain ⟨ad, hA, hc0⟩ := hget wr HI.out.2.2.2
      subst hA
      have hget2 : ∀ wx, Below w.heap.size w wx → wx.cell? (ad.add k) = some (.slice At t.2.length ct) := fun wx h => by
        obtain ⟨a, ha, hc⟩ := hget wx h
        injection ha with ha
        rw [ha]; exact hc
      have Hget := Lib.hid hget2
      have hlw : (k : Int) < (rs.length : Int) := by omega
      have hk9 : (k : Int) ≤ 1000000 := by omega
      have hsn := flatR_snoc rs k t htk
      have hle := flatR_le rs (k + 1)
      have hall := adds_app [] (flatR (rs.take k)) t.2
      have hF0 := (adds_le [] (flatR (rs.take k))).2
      rw [← hsn] at hall
      have hlen : (flatR (rs.take (k + 1))).length = (flatR (rs.take k)).length + t.2.length := by rw [hsn, List.length_append]
      simp only [List.length_nil, Nat.zero_add] at hF0
      have Hall := Lib.hid hall; have Hrt := Lib.hid hrt
      have hFb : (addsE [] (flatR (rs.take k))).length + t.2.length ≤ 1000 := by omega
      clear hget hget2 hall hrt hsn htv
      generalize addsE [] (flatR (rs.take k)) = F at HI Hall hFb
      clear hF0 hlen hle
      go_wp2_with fail
      go_loopw [3, 5] (fun o j wy => ∃ (q : Nat) (A2 : Option Addr) (n2 c2 : Nat), o = .slice A2 n2 c2 ∧ q ≤ t.2.length ∧ j = .int .i64 (q : Int) ∧ Hid (n2 = (addsE F (t.2.take q)).length ∧ SlR wy wy.heap.size 3 A2 n2 (enVs (addsE F (t.2.take q))) ∧ n2 ≤ c2 ∧ (A2 = none → c2 = 0) ∧ Below w.heap.size w wy)) (fun _ j _ => t.2.length - (intOf j).toNat)
      case atStart => exact ⟨0, A1, _, c1, rfl, Nat.zero_le _, rfl, Lib.hid ⟨rfl, HI.out⟩⟩
      case round =>
        obtain ⟨q, A2, n2, c2, rfl, hq, rfl, HJ⟩ := hrel
        have hq0 : 0 ≤ (q : Int) := by omega
        have hz0 := Hget.out wr HJ.out.2.2.2.2
        have hn2 : n2 ≤ 1000 := by
          have h1 := (adds_le F (t.2.take q)).2
          rw [List.length_take] at h1
          have := HJ.out.1
          omega
        by_cases hqt : q < t.2.length
        · obtain ⟨bd, ⟨x0, x1, x2⟩, rfl, hbd, hx, hat⟩ := (Hrt.out.below HJ.out.2.2.2.2).en (k := q) (by omega)
          obtain ⟨a0, a1, a2⟩ := id hat
          dsimp only at a0 a1 a2
          have hq1 : (q : Int) < (t.2.length : Int) := by omega
          have hq9 : (q : Int) ≤ 1000000 := by omega
          have hst : addsE F (t.2.take (q + 1)) = insE (addsE F (t.2.take q)) (x0, x1, x2) := by rw [List.take_add_one, hx]; exact adds_snoc _ _ _
          have hadd := refAdd_any A2 n2 c2 wr.heap.size (addsE F (t.2.take q)) (x0, x1, x2) wr HJ.out.2.1 (Nat.le_refl _) (by omega) HJ.out.2.2.1 HJ.out.2.2.2.1
          rw [← hst] at hadd
          unfold enA at hadd
          dsimp only at hadd
          have Hadd := Lib.hid hadd
          clear hadd hst hat hx
          go_wp2_with fail
          refine Hadd.out.mono ?_
          rintro e w2 ⟨A3, n3, c3, rfl, hr3, hnc3, _, hnil3, hb3⟩
          have hfin : Hid (n3 = (addsE F (t.2.take (q + 1))).length ∧ SlR w2 w2.heap.size 3 A3 n3 (enVs (addsE F (t.2.take (q + 1)))) ∧ n3 ≤ c3 ∧ (A3 = none → c3 = 0) ∧ Below w.heap.size w w2) := Lib.hid ⟨by have := hr3.len; rw [enVs_length] at this; omega, hr3, hnc3, hnil3, HJ.out.2.2.2.2.trans (hb3.mono HJ.out.2.2.2.2.size)⟩
          clear hr3 hnc3 hnil3 hb3 Hadd
          go_wp2_with fail
          go_roundw
          case rel => exact ⟨q + 1, A3, n3, c3, rfl, by omega, by go_num, hfin⟩
          case measure => simp [intOf]; omega
        · obtain rfl : q = t.2.length := by omega
          have hfin : Hid (n2 = (addsE [] (flatR (rs.take (k + 1)))).length ∧ SlR wr wr.heap.size 3 A2 (addsE [] (flatR (rs.take (k + 1)))).length (enVs (addsE [] (flatR (rs.take (k + 1))))) ∧ (addsE [] (flatR (rs.take (k + 1)))).length ≤ c2 ∧ (A2 = none → c2 = 0) ∧ Below w.heap.size w wr) := Lib.hid (by
            have h := HJ.out
            rw [List.take_length, ← Hall.out] at h
            exact ⟨h.1, by rw [← h.1]; exact h.2.1, by rw [← h.1]; exact h.2.2.1, h.2.2.2⟩)
          obtain rfl := hfin.out.1
          clear HJ
          go_wp2_with fail
          go_roundw
          case rel => exact ⟨k + 1, A2, c2, rfl, by omega, by go_num, Lib.hid hfin.out.2⟩
          case measure => simp [intOf]; omega
    · obtain rfl : k = rs.length := by omega
      rw [List.take_length] at *
      go_wp2_with fail
      go_ret
      exact ⟨A1, c1, rfl, HI.out.1, HI.out.2.2.2⟩
end Go.Proofs.YtfkkcgdniepgoaaGreat
