/- chapter 20: Plain and same. -/
import Derived.Test.YtadhboioaacaeaaGreatCWireTellsRefWireGet
import Derived.Test.YtadhboioaacaeaaGreatCWireTellsBookT2
import Derived.Test.YtadhboioaacaeaaGreatCWireTellsLent
import Derived.Deep.RegionHeld3

namespace Go.Proofs.YtadhboioaacaeaaGreat
open Go.RowKit
set_option maxHeartbeats 4000000
set_option maxRecDepth 100000
set_option linter.unusedVariables false

def msgV (m : WMsg) (v : Value) : Value := .agg #[.int .i64 m.k, .int .i64 m.t, .int .i64 m.l, .int .i64 m.e, .int .i64 m.c, .bool m.ok, v]

theorem plain_any (k t l e c : Int) (ok : Bool) (A : Option Addr) (n cap : Nat) (w : World) :
    Calls Tryz.prog 9 #[.agg #[.int .i64 k, .int .i64 t, .int .i64 l, .int .i64 e, .int .i64 c, .bool ok, .slice A n cap]] w fun x w' => x = .returned (.agg #[.int .i64 k, .int .i64 t, .int .i64 l, .int .i64 e, .int .i64 c, .bool ok, .slice A n cap]) ∧ Below w.heap.size w w' := by
  have hb0 : Below w.heap.size w (w.alloc (.cells #[.int .i64 k, .int .i64 t, .int .i64 l, .int .i64 e, .int .i64 c, .bool ok, .slice A n cap] 24)) := (Below.refl w.heap.size w).alloc (Nat.le_refl _) _
  have hM : BlkIs (w.alloc (.cells #[.int .i64 k, .int .i64 t, .int .i64 l, .int .i64 e, .int .i64 c, .bool ok, .slice A n cap] 24)) w.heap.size 24 #[.int .i64 k, .int .i64 t, .int .i64 l, .int .i64 e, .int .i64 c, .bool ok, .slice A n cap] := BlkIs.new _ _ _
  have hR := BlkIs.new (w.alloc (.cells #[.int .i64 k, .int .i64 t, .int .i64 l, .int .i64 e, .int .i64 c, .bool ok, .slice A n cap] 24)) 41 #[.int .i64 0, .int .i64 0, .int .i64 0, .int .i64 0, .int .i64 0, .bool false, .slice none 0 0]
  have hb1 := hb0.alloc (o := .cells #[.int .i64 0, .int .i64 0, .int .i64 0, .int .i64 0, .int .i64 0, .bool false, .slice none 0 0] 41) (by simp)
  have HM := Lib.hid hM; have HR := Lib.hid hR; have Hb1 := Lib.hid hb1
  clear hM hR hb0 hb1
  have hs : (w.alloc (.cells #[.int .i64 k, .int .i64 t, .int .i64 l, .int .i64 e, .int .i64 c, .bool ok, .slice A n cap] 24)).heap.size = w.heap.size + 1 := by simp
  rw [hs] at HR
  clear hs
  go_enter Tryz.func9, Tryz.ntmps9
  go_wp2_with fail
  have h1 := blk_seven HR.out (.int .i64 k) (.int .i64 t) (.int .i64 l) (.int .i64 e) (.int .i64 c) (.bool ok) (.slice A n cap)
  have h2 := below_seven (g := w.heap.size + 1) Hb1.out (by omega) (.int .i64 k) (.int .i64 t) (.int .i64 l) (.int .i64 e) (.int .i64 c) (.bool ok) (.slice A n cap)
  clear h1 h2
  refine bodyPost_ret (v := .agg #[.int .i64 k, .int .i64 t, .int .i64 l, .int .i64 e, .int .i64 c, .bool ok, .slice A n cap]) (w := (w.alloc (.cells #[.int .i64 k, .int .i64 t, .int .i64 l, .int .i64 e, .int .i64 c, .bool ok, .slice A n cap] 24)).alloc (.cells #[.int .i64 k, .int .i64 t, .int .i64 l, .int .i64 e, .int .i64 c, .bool ok, .slice A n cap] 41)) ?_ rfl ⟨rfl, ?_⟩
  · have hB := BlkIs.new (w.alloc (.cells #[.int .i64 k, .int .i64 t, .int .i64 l, .int .i64 e, .int .i64 c, .bool ok, .slice A n cap] 24)) 41 #[.int .i64 k, .int .i64 t, .int .i64 l, .int .i64 e, .int .i64 c, .bool ok, .slice A n cap]
    rw [show (w.alloc (.cells #[.int .i64 k, .int .i64 t, .int .i64 l, .int .i64 e, .int .i64 c, .bool ok, .slice A n cap] 24)).heap.size = w.heap.size + 1 from by simp] at hB
    have hcell := hB.cell; have hfree := hB.free; have hlt12 := hB.lt
    generalize (w.alloc (.cells #[.int .i64 k, .int .i64 t, .int .i64 l, .int .i64 e, .int .i64 c, .bool ok, .slice A n cap] 24)).alloc (.cells #[.int .i64 k, .int .i64 t, .int .i64 l, .int .i64 e, .int .i64 c, .bool ok, .slice A n cap] 41) = W12 at hcell hfree hlt12 ⊢
    simp [results, Tryz.results9, go_sem, hcell, hfree, hlt12]
  · exact ((Below.refl w.heap.size w).alloc (Nat.le_refl _) _).alloc (by simp) _

theorem same_any (m : WMsg) (v u : Value) (w : World) (h1 : Shows w 1 v (strVs m.es)) (h2 : Shows w 1 u (strVs m.es)) (hn : m.es.length ≤ 1000000000) :
    Calls Tryz.prog 13 #[msgV m v, msgV m u] w fun x w' => x = .returned (.bool true) ∧ Below w.heap.size w w' := by
  obtain ⟨k, t, l, e, c, ok, es⟩ := m
  unfold msgV
  dsimp only at h1 h2 hn ⊢
  have hA := BlkIs.new w 24 #[.int .i64 k, .int .i64 t, .int .i64 l, .int .i64 e, .int .i64 c, .bool ok, v]
  have hb0 : Below w.heap.size w (w.alloc (.cells #[.int .i64 k, .int .i64 t, .int .i64 l, .int .i64 e, .int .i64 c, .bool ok, v] 24)) := (Below.refl w.heap.size w).alloc (Nat.le_refl _) _
  have hb1 := hb0.alloc (o := .cells #[.int .i64 k, .int .i64 t, .int .i64 l, .int .i64 e, .int .i64 c, .bool ok, u] 41) (by simp)
  have hC := BlkIs.new (w.alloc (.cells #[.int .i64 k, .int .i64 t, .int .i64 l, .int .i64 e, .int .i64 c, .bool ok, v] 24)) 41 #[.int .i64 k, .int .i64 t, .int .i64 l, .int .i64 e, .int .i64 c, .bool ok, u]
  have hs : (w.alloc (.cells #[.int .i64 k, .int .i64 t, .int .i64 l, .int .i64 e, .int .i64 c, .bool ok, v] 24)).heap.size = w.heap.size + 1 := by simp
  have hA1 := hA.alloc (.cells #[.int .i64 k, .int .i64 t, .int .i64 l, .int .i64 e, .int .i64 c, .bool ok, u] 41)
  rw [hs] at hC
  have h1' := h1.below hb1
  have h2' := h2.below hb1
  have hKA : ∀ i, _ := fun i => hA1.cell i
  have hKC : ∀ i, _ := fun i => hC.cell i
  have Hb1 := Lib.hid hb1; have H1 := Lib.hid h1'; have H2 := Lib.hid h2'; have Hn := Lib.hid hn
  clear hA hA1 hC hb0 hb1 h1' h2' hn h1 h2 hs
  go_enter Tryz.func13, Tryz.ntmps13
  go_wp2_with (go_at_call 45; refine (sameTexts_shows _ _ (strVs es) _ H1.out H2.out ⟨es, rfl⟩ (by simpa [strVs] using Hn.out)).mono ?_; rintro e w10 ⟨rfl, k10, rfl⟩)
  go_ret
  exact ⟨rfl, below_drewN Hb1.out k10⟩
end Go.Proofs.YtadhboioaacaeaaGreat
