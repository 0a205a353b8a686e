/- chapter 13: from's second search, whatever its bounds are. -/
import Derived.Test.YtfkkcgdniepgoaaTblFrom2
import Derived.Test.YtfkkcgdniepgoaaMidsLaw
namespace Go.Proofs.Ytfkkcgdniepgoaa
open Go.RowKit
set_option maxHeartbeats 4000000
set_option maxRecDepth 100000
set_option linter.unusedVariables false

theorem sortSearch_neg (v : Value) (D : Int) (w : World) (hD : D < 0) (hD2 : -1000000 < D) :
    Calls Try.prog 58 #[.int .i64 D, v] w fun x w' => x = .returned (.int .i64 ((0 : Nat) : Int)) ∧ Below w.heap.size w w' := by
  have hd : decide (0 < D) = false := decide_eq_false (by omega)
  go_enter Try.func58, Try.ntmps58
  go_wp2_with fail
  go_loopw [5, 6] (fun i j wr => i = .int .i64 0 ∧ j = .int .i64 D ∧ w = wr) (fun i j _ => (intOf j - intOf i).toNat)
  case atStart => exact ⟨rfl, rfl, rfl⟩
  case round =>
    obtain ⟨rfl, rfl, rfl⟩ := hrel
    go_wp2_with fail
    go_ret
    exact ⟨rfl, Below.refl _ _⟩

theorem fromTwo_search (M O E : Nat) (A : Option Addr) (n c B o R : Nat) (hi : Int) (l : List En) (e : En) (Y : World) (hM : BlkIs Y M 22 #[.slice A n c]) (hO : BlkIs Y O 3 #[.int .i64 (o : Int)]) (hE : BlkIs Y E 33 #[.int .i64 e.1, .int .i64 e.2.1, .int .i64 e.2.2]) (hr : SlR Y B 3 A n (enVs l)) (hB : B ≤ Y.heap.size) (hn : n ≤ 1000000) (hl : l.length = n) (ho : o ≤ n + 8)
    (hlt : ∀ (i : Nat) (x : En), l[i]? = some x → ltE x e = decide (i < R)) (hh : (o ≤ R ∧ (R : Int) ≤ hi ∧ hi ≤ n) ∨ (hi < o ∧ hi = n ∧ R = n)) :
    ∃ q : Nat, (o + q = R ∨ R = n ∧ n < o + q) ∧ o + q ≤ n + 8 ∧ ∀ wx, Below Y.heap.size Y wx → Calls Try.prog 58 #[.int .i64 (hi - (o : Int)), .func (.func 60) #[] #[.pointer (some ⟨M, 0, none⟩), .pointer (some ⟨O, 0, none⟩), .pointer (some ⟨E, 0, none⟩)]] wx fun x w' => x = .returned (.int .i64 (q : Int)) ∧ Below wx.heap.size wx w' := by
  rcases hh with ⟨h1, h2, h3⟩ | ⟨h1, h2, h3⟩
  · obtain ⟨N, hN⟩ : ∃ N : Nat, hi - (o : Int) = (N : Int) := ⟨(hi - o).toNat, by omega⟩
    refine ⟨R - o, .inl (by omega), by omega, fun wy hy => ?_⟩
    rw [hN]
    refine sortSearch_two _ _ _ N (R - o) wy (by omega) (by omega) (fun k hk wx hb => ?_)
    have hx : l[o + k]? = some (l[o + k]'(by omega)) := List.getElem?_eq_getElem _
    have hYx := hy.trans (hb.mono hy.size)
    refine (fromTwo_any M O E A n c B o k l _ e wx (hM.below hYx hM.lt) (hO.below hYx hO.lt) (hE.below hYx hE.lt) (hr.below (hYx.mono hB)) (Nat.le_trans hB hYx.size) hn (by omega) hx).mono ?_
    rintro z w' ⟨rfl, hb'⟩
    refine ⟨?_, hb'⟩
    rw [hlt _ _ hx]
    by_cases h : R - o ≤ k
    · rw [decide_eq_true h, decide_eq_false (by omega)]; rfl
    · rw [decide_eq_false h, decide_eq_true (by omega)]; rfl
  · exact ⟨0, .inr ⟨h3, by omega⟩, by omega, fun wx hb => sortSearch_neg _ _ wx (by omega) (by omega)⟩
end Go.Proofs.Ytfkkcgdniepgoaa
