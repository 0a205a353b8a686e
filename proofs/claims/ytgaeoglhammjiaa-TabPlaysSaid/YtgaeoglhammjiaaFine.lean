/- append, and what becomes of the slice that was appended to: what it showed it shows still. No program here. -/
import Derived.Test.YtgaeoglhammjiaaSliceStep
namespace Go.Proofs.Ytgaeoglhammjiaa
open Go.RowKit
set_option linter.unusedVariables false

/-- every cell stays, but those of v's own block that lie behind its first k -/
def OldStays (w w' : World) (v : Value) (k : Nat) : Prop :=
  ∀ (a : Addr) (u : Value), w.cell? a = some u → (∀ g, v.ownBlock = some g → a.block = g → ∃ j, j < k ∧ a = (⟨g, 0, none⟩ : Addr).add j) → w'.cell? a = some u

theorem add_inj0 {g i j : Nat} (h : (⟨g, 0, none⟩ : Addr).add i = (⟨g, 0, none⟩ : Addr).add j) : i = j := by
  unfold Addr.add at h
  by_cases hi : i = 0 <;> by_cases hj : j = 0 <;> simp [hi, hj] at h <;> omega

section
variable {P : Program} (w : World)
theorem run_append_fine (base : Nat) (t ty e : TypeId) (i : TypeInfo) (z : Value) (size bytes : Nat) (ht : P.underlying t = some (.slice e)) (hi : P.info? e = some i) (hz : i.zero = some z)
    (hsize : i.size = size) (hby : i.bytes = bytes) (hzs : z.cells.size = size) (hsz : 0 < size)
    (v : Value) (n : Nat) (xs : List Value) (hown : w.ownsRow base e size v n xs)
    (B : Nat) (A : Option Addr) (m c : Nat) (news : List Value) (hr : SlR w B size A m news) (h1 : ∀ u ∈ news, u.oneCell' = true)
    (h63 : n + m ≤ maxLen) (hbytes : (n + m) * bytes ≤ 140737488355328) (hbase : base ≤ w.heap.size) :
    ∃ v' w', (Builtin.append_ #[t, t] ty #[v, .slice A m c]).run P w = .ok v' w' ∧ w'.ownsRow base e size v' (n + m) (xs ++ news) ∧ w.grownBy w' v.ownBlock ∧
      (v'.ownBlock = v.ownBlock ∨ v'.ownBlock = some w.heap.size) ∧ OldStays w w' v (n * size) := by
  obtain ⟨v', w', hrun, h2, h3, h4⟩ := run_append_sl (P := P) w base t ty e i z size bytes ht hi hz hsize hby hzs hsz v n xs hown B A m c news hr h1 h63 hbytes hbase
  refine ⟨v', w', hrun, h2, h3, h4, ?_⟩
  have hlt : ∀ (a : Addr) (u : Value), w.cell? a = some u → a.block < w.heap.size := by
    intro a u hu
    apply Classical.byContradiction
    intro hn
    have : w.heap[a.block]? = none := Array.getElem?_eq_none (by omega)
    simp [World.cell?, this] at hu
  intro a u hu ha
  by_cases hab : v.ownBlock = some a.block
  · obtain ⟨j, hj, hae⟩ := ha _ hab rfl
    have hxl : j < xs.length := by rw [hown.1]; exact hj
    have hold := hown.cells hab j xs[j] (List.getElem?_eq_getElem hxl)
    rw [← hae, hu] at hold
    injection hold with hold
    subst hold
    rcases h4 with h4 | h4
    · have := h2.cells (h4.trans hab) j xs[j] (by rw [List.getElem?_append_left hxl]; exact List.getElem?_eq_getElem hxl)
      rw [hae]; exact this
    · by_cases hm : m = 0
      · subst hm
        have hn : news = [] := List.eq_nil_of_length_eq_zero (by simpa using hr.len)
        subst hn
        have hrun2 := run_append_zero (P := P) w base t ty e i size ht hi v n xs hown A c
        rw [hrun] at hrun2
        injection hrun2 with e1 e2
        rw [e2]; exact hu
      · obtain ⟨ad, rfl, _, hcn⟩ := hr.cells (by omega)
        rcases hown.2 with ⟨rfl, _⟩ | ⟨g, cap, cur, rfl, hbg, hg, hnc, hcm, hcs, htake⟩
        · simp [Value.ownBlock] at hab
        · by_cases hroom : n + m ≤ cap
          · have hfit : n * i.size + news.length ≤ cur.size := by rw [hr.len, hcs, hsize, ← Nat.add_mul]; exact Nat.mul_le_mul_right _ hroom
            have hrun2 := run_append_room (P := P) w t ty e i ht hi g n cap cur hg ad m c news (by rw [hsize]; exact hr.len) hcn h1 hroom hfit
            rw [hrun] at hrun2
            injection hrun2 with e1 e2
            rw [e1] at h4
            simp [Value.ownBlock] at h4
            have := (Array.getElem?_eq_some_iff.1 hg).1
            omega
          · have hrun2 := run_append_grow (P := P) w t ty e i z ht hi hz ⟨g, 0, none⟩ n cap xs (by rw [hsize]; exact hown.1) (hown.cells (g := g) rfl) ad m c news (by rw [hsize]; exact hr.len) hcn (by omega) (by simp only [maxLen] at h63; omega) (growslice_fits (by omega) (by rw [hby]; exact hbytes))
            rw [hrun] at hrun2
            injection hrun2 with e1 e2
            rw [e2]
            exact (World.cell?_alloc_lt w.drew _ a (hlt a _ hu)).trans hu
  · exact h3.cell hu (fun e => hab e.symm)

theorem wpList_append_fine {ops : Array Oper} {rest : List Oper} {o : Oper} {a : Act} {Q : Exit → Act → World → Prop} (hw : Region.wanted o (yielded ops a.tmps) = true) (s x : Operand) (t : TypeId)
    (ho : o.op = .call { callee := .builtin .append, args := #[s, x], argTypes := #[t, t] })
    (base : Nat) (e : TypeId) (i : TypeInfo) (z : Value) (size bytes : Nat) (ht : P.underlying t = some (.slice e)) (hi : P.info? e = some i) (hz : i.zero = some z)
    (hsize : i.size = size) (hby : i.bytes = bytes) (hzs : z.cells.size = size) (hsz : 0 < size)
    (v : Value) (n : Nat) (xs : List Value) (hs : a.eval s = v) (hown : w.ownsRow base e size v n xs)
    (B : Nat) (A : Option Addr) (m c : Nat) (news : List Value) (hx : a.eval x = .slice A m c) (hr : SlR w B size A m news) (h1 : ∀ u ∈ news, u.oneCell' = true)
    (h63 : n + m ≤ maxLen) (hbytes : (n + m) * bytes ≤ 140737488355328) (hbase : base ≤ w.heap.size)
    (h : ∀ v' w', w'.ownsRow base e size v' (n + m) (xs ++ news) → w.grownBy w' v.ownBlock → (v'.ownBlock = v.ownBlock ∨ v'.ownBlock = some w.heap.size) → OldStays w w' v (n * size) → wpList P ops Q rest (a.put o.dst v') w') : wpList P ops Q (o :: rest) a w :=
  wpList_step fun _ hK => by
    rw [if_pos hw]
    obtain ⟨v', w', hrun, h2, h3, h4, h5⟩ := run_append_fine (P := P) w base t o.type e i z size bytes ht hi hz hsize hby hzs hsz v n xs hown B A m c news hr h1 h63 hbytes hbase
    unfold Oper.wp execOp
    simp only [ho, resolve, invoke, builtin, Sem.run_bind, Sem.run_pure, Result.andThen_ok, List.map_toArray, List.map_cons, List.map_nil, hs, hx, hrun]
    exact hK _ _ (h v' w' h2 h3 h4 h5)
end
end Go.Proofs.Ytgaeoglhammjiaa
