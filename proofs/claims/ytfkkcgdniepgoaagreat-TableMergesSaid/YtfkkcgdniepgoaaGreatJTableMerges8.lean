/- append of whatever slice as one step of a region that draws its order. No program here. -/
import Derived.Test.YtfkkcgdniepgoaaGreatJTableMerges1
import Derived.Deep.RegionLaw

namespace Go.Proofs.YtfkkcgdniepgoaaGreat
open Go.RowKit

theorem step_append_sl {P : Program} {ops : Array Oper} {o : Oper} {a : Act} {w : World} {K : Act → World → Prop} {Q : Exit → Act → World → Prop} {E : Prop}
    (hg : o.guard = none) (s x : Operand) (t : TypeId) (hop : o.op = Op.call { callee := Callee.builtin Builtin.append, args := #[s, x], argTypes := #[t, t] })
    (base : Nat) (e : TypeId) (i : TypeInfo) (z : Value) (size bytes : Nat) (ht : P.underlying t = some (.slice e)) (hi : P.info? e = some i) (hz : i.zero = some z)
    (hsize : i.size = size) (hby : i.bytes = bytes) (hzs : z.cells.size = size) (hsz : 0 < size)
    (v : Value) (n : Nat) (xs : List Value) (hs : a.eval s = v) (hown : w.ownsRow base e size v n xs)
    (B : Nat) (A : Option Addr) (m c : Nat) (news : List Value) (hx : a.eval x = .slice A m c) (hr : SlR w B size A m news) (h1 : ∀ u ∈ news, u.oneCell' = true)
    (h63 : n + m ≤ maxLen) (hbytes : (n + m) * bytes ≤ 140737488355328) (hbase : base ≤ w.heap.size)
    (hK : ∀ v' w', w'.ownsRow base e size v' (n + m) (xs ++ news) → w.grownBy w' v.ownBlock → (v'.ownBlock = v.ownBlock ∨ v'.ownBlock = some w.heap.size) → K (a.put o.dst v') w') :
    if Region.wanted o (yielded ops a.tmps) = true then Oper.wp P o a w K Q else E := by
  have hw : Region.wanted o (yielded ops a.tmps) = true := by simp [Region.wanted, hg]
  rw [if_pos hw]
  obtain ⟨v', w', hrun, h2, h3, h4⟩ := run_append_sl (P := P) w base t o.type e i z size bytes ht hi hz hsize hby hzs hsz v n xs hown B A m c news hr h1 h63 hbytes hbase
  unfold Oper.wp
  simp [execOp, hop, resolve, invoke, builtin, hs, hx, hrun, Result.andThen]
  exact hK _ _ h2 h3 h4
end Go.Proofs.YtfkkcgdniepgoaaGreat

/- append, and what becomes of the slice that was appended to: what it showed it shows still. No program here. -/
namespace Go.Proofs.YtfkkcgdniepgoaaGreat
open Go.RowKit
set_option linter.unusedVariables false

/-- every cell stays, but those of v's own block that lie behind its first k -/
def OldStays (w w' : World) (v : Value) (k : Nat) : Prop :=
  ∀ (a : Addr) (u : Value), w.cell? a = some u → (∀ g, v.ownBlock = some g → a.block = g → ∃ j, j < k ∧ a = (⟨g, 0, none⟩ : Addr).add j) → w'.cell? a = some u

theorem add_inj0 {g i j : Nat} (h : (⟨g, 0, none⟩ : Addr).add i = (⟨g, 0, none⟩ : Addr).add j) : i = j := by
  unfold Addr.add at h
  by_cases hi : i = 0 <;> by_cases hj : j = 0 <;> simp [hi, hj] at h <;> omega

section
variable {P : Program} (w : World)
theorem run_append_fine (base : Nat) (t ty e : TypeId) (i : TypeInfo) (z : Value) (size bytes : Nat) (ht : P.underlying t = some (.slice e)) (hi : P.info? e = some i) (hz : i.zero = some z)
    (hsize : i.size = size) (hby : i.bytes = bytes) (hzs : z.cells.size = size) (hsz : 0 < size)
    (v : Value) (n : Nat) (xs : List Value) (hown : w.ownsRow base e size v n xs)
    (B : Nat) (A : Option Addr) (m c : Nat) (news : List Value) (hr : SlR w B size A m news) (h1 : ∀ u ∈ news, u.oneCell' = true)
    (h63 : n + m ≤ maxLen) (hbytes : (n + m) * bytes ≤ 140737488355328) (hbase : base ≤ w.heap.size) :
    ∃ v' w', (Builtin.append_ #[t, t] ty #[v, .slice A m c]).run P w = .ok v' w' ∧ w'.ownsRow base e size v' (n + m) (xs ++ news) ∧ w.grownBy w' v.ownBlock ∧
      (v'.ownBlock = v.ownBlock ∨ v'.ownBlock = some w.heap.size) ∧ OldStays w w' v (n * size) := by
  obtain ⟨v', w', hrun, h2, h3, h4⟩ := run_append_sl (P := P) w base t ty e i z size bytes ht hi hz hsize hby hzs hsz v n xs hown B A m c news hr h1 h63 hbytes hbase
  refine ⟨v', w', hrun, h2, h3, h4, ?_⟩
  have hlt : ∀ (a : Addr) (u : Value), w.cell? a = some u → a.block < w.heap.size := by
    intro a u hu
    apply Classical.byContradiction
    intro hn
    have : w.heap[a.block]? = none := Array.getElem?_eq_none (by omega)
    simp [World.cell?, this] at hu
  intro a u hu ha
  by_cases hab : v.ownBlock = some a.block
  · obtain ⟨j, hj, hae⟩ := ha _ hab rfl
    have hxl : j < xs.length := by rw [hown.1]; exact hj
    have hold := hown.cells hab j xs[j] (List.getElem?_eq_getElem hxl)
    rw [← hae, hu] at hold
    injection hold with hold
    subst hold
    rcases h4 with h4 | h4
    · have := h2.cells (h4.trans hab) j xs[j] (by rw [List.getElem?_append_left hxl]; exact List.getElem?_eq_getElem hxl)
      rw [hae]; exact this
    · by_cases hm : m = 0
      · subst hm
        have hn : news = [] := List.eq_nil_of_length_eq_zero (by simpa using hr.len)
        subst hn
        have hrun2 := run_append_zero (P := P) w base t ty e i size ht hi v n xs hown A c
        rw [hrun] at hrun2
        injection hrun2 with e1 e2
        rw [e2]; exact hu
      · obtain ⟨ad, rfl, _, hcn⟩ := hr.cells (by omega)
        rcases hown.2 with ⟨rfl, _⟩ | ⟨g, cap, cur, rfl, hbg, hg, hnc, hcm, hcs, htake⟩
        · simp [Value.ownBlock] at hab
        · by_cases hroom : n + m ≤ cap
          · have hfit : n * i.size + news.length ≤ cur.size := by rw [hr.len, hcs, hsize, ← Nat.add_mul]; exact Nat.mul_le_mul_right _ hroom
            have hrun2 := run_append_room (P := P) w t ty e i ht hi g n cap cur hg ad m c news (by rw [hsize]; exact hr.len) hcn h1 hroom hfit
            rw [hrun] at hrun2
            injection hrun2 with e1 e2
            rw [e1] at h4
            simp [Value.ownBlock] at h4
            have := (Array.getElem?_eq_some_iff.1 hg).1
            omega
          · have hrun2 := run_append_grow (P := P) w t ty e i z ht hi hz ⟨g, 0, none⟩ n cap xs (by rw [hsize]; exact hown.1) (hown.cells (g := g) rfl) ad m c news (by rw [hsize]; exact hr.len) hcn (by omega) (by simp only [maxLen] at h63; omega) (growslice_fits (by omega) (by rw [hby]; exact hbytes))
            rw [hrun] at hrun2
            injection hrun2 with e1 e2
            rw [e2]
            exact (World.cell?_alloc_lt w.drew _ a (hlt a _ hu)).trans hu
  · exact h3.cell hu (fun e => hab e.symm)

theorem wpList_append_fine {ops : Array Oper} {rest : List Oper} {o : Oper} {a : Act} {Q : Exit → Act → World → Prop} (hw : Region.wanted o (yielded ops a.tmps) = true) (s x : Operand) (t : TypeId)
    (ho : o.op = .call { callee := .builtin .append, args := #[s, x], argTypes := #[t, t] })
    (base : Nat) (e : TypeId) (i : TypeInfo) (z : Value) (size bytes : Nat) (ht : P.underlying t = some (.slice e)) (hi : P.info? e = some i) (hz : i.zero = some z)
    (hsize : i.size = size) (hby : i.bytes = bytes) (hzs : z.cells.size = size) (hsz : 0 < size)
    (v : Value) (n : Nat) (xs : List Value) (hs : a.eval s = v) (hown : w.ownsRow base e size v n xs)
    (B : Nat) (A : Option Addr) (m c : Nat) (news : List Value) (hx : a.eval x = .slice A m c) (hr : SlR w B size A m news) (h1 : ∀ u ∈ news, u.oneCell' = true)
    (h63 : n + m ≤ maxLen) (hbytes : (n + m) * bytes ≤ 140737488355328) (hbase : base ≤ w.heap.size)
    (h : ∀ v' w', w'.ownsRow base e size v' (n + m) (xs ++ news) → w.grownBy w' v.ownBlock → (v'.ownBlock = v.ownBlock ∨ v'.ownBlock = some w.heap.size) → OldStays w w' v (n * size) → wpList P ops Q rest (a.put o.dst v') w') : wpList P ops Q (o :: rest) a w :=
  wpList_step fun _ hK => by
    rw [if_pos hw]
    obtain ⟨v', w', hrun, h2, h3, h4, h5⟩ := run_append_fine (P := P) w base t o.type e i z size bytes ht hi hz hsize hby hzs hsz v n xs hown B A m c news hr h1 h63 hbytes hbase
    unfold Oper.wp execOp
    simp only [ho, resolve, invoke, builtin, Sem.run_bind, Sem.run_pure, Result.andThen_ok, List.map_toArray, List.map_cons, List.map_nil, hs, hx, hrun]
    exact hK _ _ (h v' w' h2 h3 h4 h5)
end
end Go.Proofs.YtfkkcgdniepgoaaGreat

/- Lists in memory that do not share; what a list shows; marks. No program here. -/
namespace Go.Proofs.YtfkkcgdniepgoaaGreat
open Go.RowKit
set_option linter.unusedVariables false

/-- no two of them lie in one block -/
def ApartV (vs : List Value) : Prop := ∀ (i j : Nat) (v u : Value) (g : Nat), i ≠ j → vs[i]? = some v → vs[j]? = some u → v.ownBlock = some g → u.ownBlock ≠ some g

/-- the values vs are lists of the call's own, of the cells xss, none in another one's block -/
structure Lists (w : World) (base : Nat) (e : TypeId) (c : Nat) (vs : List Value) (xss : List (List Value)) : Prop where
  len : vs.length = xss.length
  own : ∀ (i : Nat) (v : Value) (xs : List Value), vs[i]? = some v → xss[i]? = some xs → ∃ n, w.ownsRow base e c v n xs
  apart : ApartV vs

section
variable {w w' : World} {base : Nat} {e : TypeId} {c : Nat} {vs : List Value} {xss : List (List Value)}
theorem Lists.nil (w : World) (base : Nat) (e : TypeId) (c : Nat) : Lists w base e c [] [] := ⟨rfl, fun i v xs h => by simp at h, fun i j v u g _ h => by simp at h⟩
theorem Lists.lt (h : Lists w base e c vs xss) {i : Nat} {v : Value} (hv : vs[i]? = some v) {g : Nat} (hg : v.ownBlock = some g) : base ≤ g ∧ g < w.heap.size := by
  obtain ⟨xs, hx⟩ : ∃ xs, xss[i]? = some xs := ⟨_, List.getElem?_eq_getElem (by rw [← h.len]; exact (List.getElem?_eq_some_iff.1 hv).1)⟩
  obtain ⟨n, ho⟩ := h.own i v xs hv hx
  exact ho.lt g hg
theorem Lists.kept {row : Option Nat} (h : Lists w base e c vs xss) (hg : w.grownBy w' row) (hr : ∀ (i : Nat) (v : Value) (g : Nat), vs[i]? = some v → v.ownBlock = some g → row ≠ some g) : Lists w' base e c vs xss :=
  ⟨h.len, fun i v xs hv hx => by
    obtain ⟨n, ho⟩ := h.own i v xs hv hx
    refine ⟨n, ho.kept hg ?_⟩
    cases hb : v.ownBlock with
    | none => exact .inl rfl
    | some g => exact .inr (fun e => hr i v g hv hb e.symm), h.apart⟩
theorem grown_refl (w : World) (row : Option Nat) : w.grownBy w row := ⟨rfl, rfl, rfl, Nat.le_refl _, fun _ _ _ => rfl⟩
theorem grown_belowL {B : Nat} {row : Option Nat} (h : Below B w w') (hB : w.heap.size ≤ B) : w.grownBy w' row := ⟨h.os, h.tape, h.output, h.size, fun k hk _ => h.block k (by omega)⟩
theorem Lists.below {B : Nat} (h : Lists w base e c vs xss) (hb : Below B w w') (hB : w.heap.size ≤ B) : Lists w' base e c vs xss := h.kept (row := none) (grown_belowL hb hB) (fun _ _ _ _ _ e => by cases e)
theorem Lists.drewN (h : Lists w base e c vs xss) (k : Nat) : Lists (w.drewN k) base e c vs xss := ⟨h.len, h.own, h.apart⟩
theorem Lists.alloc (h : Lists w base e c vs xss) (o : Obj) : Lists (w.alloc o) base e c vs xss :=
  ⟨h.len, fun i v xs hv hx => by obtain ⟨n, ho⟩ := h.own i v xs hv hx; exact ⟨n, ho.alloc o⟩, h.apart⟩
theorem ApartV.snoc (h : ApartV vs) {v : Value} (hv : ∀ (i : Nat) (u : Value) (g : Nat), vs[i]? = some u → v.ownBlock = some g → u.ownBlock ≠ some g) : ApartV (vs ++ [v]) := by
  intro i j x y g hij hx hy hg
  have hone : ∀ (k : Nat) (z : Value), (vs ++ [v])[k]? = some z → vs[k]? = some z ∨ (k = vs.length ∧ z = v) := by
    intro k z hz
    by_cases hk : k < vs.length
    · rw [List.getElem?_append_left hk] at hz; exact .inl hz
    · rw [List.getElem?_append_right (by omega)] at hz
      by_cases h0 : k - vs.length = 0
      · rw [h0] at hz; simp at hz; exact .inr ⟨by omega, hz.symm⟩
      · obtain ⟨q, hq⟩ : ∃ q, k - vs.length = q + 1 := ⟨k - vs.length - 1, by omega⟩
        rw [hq] at hz; simp at hz
  rcases hone i x hx with h1 | ⟨h1, rfl⟩
  · rcases hone j y hy with h2 | ⟨h2, rfl⟩
    · exact h i j x y g hij h1 h2 hg
    · intro h3; exact hv i x g h1 h3 hg
  · rcases hone j y hy with h2 | ⟨h2, _⟩
    · exact hv j y g h2 hg
    · omega
theorem Lists.snoc (h : Lists w base e c vs xss) {v : Value} {n : Nat} {xs : List Value} (ho : w.ownsRow base e c v n xs) (hv : ∀ (i : Nat) (u : Value) (g : Nat), vs[i]? = some u → v.ownBlock = some g → u.ownBlock ≠ some g) :
    Lists w base e c (vs ++ [v]) (xss ++ [xs]) := by
  refine ⟨by simp [h.len], fun i u ys hu hy => ?_, h.apart.snoc hv⟩
  by_cases hi : i < vs.length
  · rw [List.getElem?_append_left hi] at hu
    rw [List.getElem?_append_left (by rw [← h.len]; exact hi)] at hy
    exact h.own i u ys hu hy
  · have hlt := (List.getElem?_eq_some_iff.1 hu).1
    rw [List.length_append, List.length_singleton] at hlt
    obtain rfl : i = vs.length := by omega
    rw [List.getElem?_append_right (Nat.le_refl _), Nat.sub_self] at hu
    rw [h.len, List.getElem?_append_right (Nat.le_refl _), Nat.sub_self] at hy
    simp at hu hy
    subst hu hy
    exact ⟨n, ho⟩
theorem set_get {α : Type} (l : List α) (i j : Nat) (a b : α) (h : (l.set i a)[j]? = some b) : (i = j ∧ b = a) ∨ (i ≠ j ∧ l[j]? = some b) := by
  rw [List.getElem?_set] at h
  by_cases e : i = j
  · subst e
    simp at h
    exact .inl ⟨rfl, h.2.symm⟩
  · rw [if_neg e] at h; exact .inr ⟨e, h⟩
/-- one of them is grown, or written: in its own block, or in a new one -/
theorem Lists.upd (h : Lists w base e c vs xss) {i : Nat} {v v' : Value} {n' : Nat} {xs' : List Value} (hv : vs[i]? = some v) (ho : w'.ownsRow base e c v' n' xs') (hg : w.grownBy w' v.ownBlock)
    (hb : v'.ownBlock = v.ownBlock ∨ v'.ownBlock = some w.heap.size) : Lists w' base e c (vs.set i v') (xss.set i xs') := by
  refine ⟨by simp [h.len], fun j u ys hu hy => ?_, fun j k x y g hjk hx hy hgx hgy => ?_⟩
  · rcases set_get _ _ _ _ _ hu with ⟨rfl, rfl⟩ | ⟨hne, hu⟩
    · rcases set_get _ _ _ _ _ hy with ⟨_, rfl⟩ | ⟨hne, _⟩
      · exact ⟨n', ho⟩
      · exact absurd rfl hne
    · rcases set_get _ _ _ _ _ hy with ⟨e, _⟩ | ⟨_, hy⟩
      · exact absurd e hne
      · obtain ⟨n, hn⟩ := h.own j u ys hu hy
        refine ⟨n, hn.kept hg ?_⟩
        cases hb2 : u.ownBlock with
        | none => exact .inl rfl
        | some g => exact .inr (fun e => h.apart j i u v g (fun e2 => hne e2.symm) hu hv hb2 e.symm)
  · rcases set_get _ _ _ _ _ hx with ⟨e1, e2⟩ | ⟨hne, hx2⟩
    · rcases set_get _ _ _ _ _ hy with ⟨e, _⟩ | ⟨hne2, hy2⟩
      · exact hjk (e1.symm.trans e)
      · rw [e2] at hgx
        rcases hb with hb | hb
        · exact h.apart i k v y g hne2 hv hy2 (hb ▸ hgx) hgy
        · rw [hb] at hgx
          injection hgx with hgx
          have := (h.lt hy2 hgy).2
          omega
    · rcases set_get _ _ _ _ _ hy with ⟨e1, e2⟩ | ⟨hne2, hy2⟩
      · rw [e2] at hgy
        rcases hb with hb | hb
        · exact h.apart j i x v g (fun e => hne e.symm) hx2 hv hgx (hb ▸ hgy)
        · rw [hb] at hgy
          injection hgy with hgy
          have := (h.lt hx2 hgx).2
          omega
      · exact h.apart j k x y g hjk hx2 hy2 hgx hgy
end

/-- a list shows the cells xs -/
def Shows (w : World) (c : Nat) (v : Value) (xs : List Value) : Prop := ∃ A n cap, v = .slice A n cap ∧ SlR w w.heap.size c A n xs ∧ n ≤ cap
theorem Shows.own {w : World} {base : Nat} {e : TypeId} {c n : Nat} {v : Value} {xs : List Value} (h : w.ownsRow base e c v n xs) : Shows w c v xs := by
  obtain ⟨A, cap, rfl, hc⟩ := own_slice h
  exact ⟨A, n, cap, rfl, SlR.own h, hc⟩
theorem Shows.below {w w' : World} {c : Nat} {v : Value} {xs : List Value} (h : Shows w c v xs) (hb : Below w.heap.size w w') : Shows w' c v xs := by
  obtain ⟨A, n, cap, e, hs, hc⟩ := h
  exact ⟨A, n, cap, e, (hs.below hb).more hb.size, hc⟩
theorem Shows.drewN {w : World} {c : Nat} {v : Value} {xs : List Value} (h : Shows w c v xs) (k : Nat) : Shows (w.drewN k) c v xs := by
  obtain ⟨A, n, cap, e, hs, hc⟩ := h
  exact ⟨A, n, cap, e, hs.drewN k, hc⟩

/-- the lists vs as they were show their cells still, though the lists us that came of them may have been grown -/
structure Views (w : World) (c : Nat) (vs us : List Value) (xss : List (List Value)) : Prop where
  form : ∀ (j : Nat) (v : Value) (xs : List Value), vs[j]? = some v → xss[j]? = some xs → ∃ A n cap, v = .slice A n cap ∧ xs.length = n * c ∧ n ≤ cap ∧ (0 < n → ∃ g, A = some ⟨g, 0, none⟩ ∧ v.ownBlock = some g)
  cell : ∀ (j : Nat) (v : Value) (xs : List Value) (g p : Nat) (u : Value), vs[j]? = some v → xss[j]? = some xs → v.ownBlock = some g → xs[p]? = some u → w.cell? ((⟨g, 0, none⟩ : Addr).add p) = some u
  one : ∀ (j k : Nat) (v u : Value) (g : Nat), vs[j]? = some v → us[k]? = some u → v.ownBlock = some g → u.ownBlock = some g → j = k
  small : ∀ (j : Nat) (v : Value) (g : Nat), vs[j]? = some v → v.ownBlock = some g → g < w.heap.size
section
variable {w w' : World} {base : Nat} {e : TypeId} {c : Nat} {vs us : List Value} {xss : List (List Value)}
theorem Views.start (h : Lists w base e c vs xss) : Views w c vs vs xss := by
  refine ⟨fun j v xs hv hx => ?_, fun j v xs g p u hv hx hg hp => ?_, fun j k v u g hv hu h1 h2 => ?_, fun j v g hv hg => (h.lt hv hg).2⟩
  · obtain ⟨n, ho⟩ := h.own j v xs hv hx
    obtain ⟨A, cap, rfl, hc⟩ := own_slice ho
    refine ⟨A, n, cap, rfl, ho.1, hc, fun hn => ?_⟩
    obtain ⟨g, cap', hv', _, _⟩ := ho.form hn
    injection hv' with h1 h2 h3
    subst h1
    exact ⟨g, rfl, rfl⟩
  · obtain ⟨n, ho⟩ := h.own j v xs hv hx
    exact ho.cells hg p u hp
  · apply Classical.byContradiction
    intro hne
    exact h.apart j k v u g hne hv hu h1 h2
theorem Views.shows (h : Views w c vs us xss) {j : Nat} {v : Value} {xs : List Value} (hv : vs[j]? = some v) (hx : xss[j]? = some xs) : Shows w c v xs := by
  obtain ⟨A, n, cap, rfl, hl, hc, hf⟩ := h.form j v xs hv hx
  refine ⟨A, n, cap, rfl, ⟨hl, fun hn => ?_⟩, hc⟩
  obtain ⟨g, hA, hg⟩ := hf hn
  subst hA
  exact ⟨_, rfl, h.small j _ g hv hg, fun p u hp => h.cell j _ xs g p u hv hx hg hp⟩
theorem Views.below {B : Nat} (h : Views w c vs us xss) (hb : Below B w w') (hB : w.heap.size ≤ B) : Views w' c vs us xss :=
  ⟨h.form, fun j v xs g p u hv hx hg hp => (hb.cell (p := (⟨g, 0, none⟩ : Addr).add p) (by rw [add_block]; have := h.small j v g hv hg; exact Nat.lt_of_lt_of_le this hB)).trans (h.cell j v xs g p u hv hx hg hp), h.one, fun j v g hv hg => Nat.lt_of_lt_of_le (h.small j v g hv hg) hb.size⟩
theorem Views.grown (h : Views w c vs us xss) {row : Option Nat} (hg2 : w.grownBy w' row) (hr : ∀ (j : Nat) (v : Value) (g : Nat), vs[j]? = some v → v.ownBlock = some g → row ≠ some g) : Views w' c vs us xss :=
  ⟨h.form, fun j v xs g p u hv hx hg hp => hg2.cell (h.cell j v xs g p u hv hx hg hp) (by rw [add_block]; exact fun e => hr j v g hv hg e.symm), h.one, fun j v g hv hg => Nat.lt_of_lt_of_le (h.small j v g hv hg) hg2.size⟩
/-- us[i] is grown by an append -/
theorem Views.upd (h : Views w c vs us xss) {i m : Nat} {u0 u1 : Value} (hu : us[i]? = some u0) (hm : ∀ xs, xss[i]? = some xs → xs.length ≤ m) (hold : OldStays w w' u0 m) (hg2 : w.grownBy w' u0.ownBlock)
    (hb : u1.ownBlock = u0.ownBlock ∨ u1.ownBlock = some w.heap.size) : Views w' c vs (us.set i u1) xss := by
  refine ⟨h.form, fun j v xs g p u hv hx hg hp => ?_, fun j k v u g hv hk h1 h2 => ?_, fun j v g hv hg => Nat.lt_of_lt_of_le (h.small j v g hv hg) hg2.size⟩
  · refine hold _ u (h.cell j v xs g p u hv hx hg hp) (fun g' hg' he => ?_)
    rw [add_block] at he
    subst he
    obtain rfl := h.one j i v u0 _ hv hu hg hg'
    have := (List.getElem?_eq_some_iff.1 hp).1
    exact ⟨p, by have := hm xs hx; omega, rfl⟩
  · rcases set_get _ _ _ _ _ hk with ⟨rfl, rfl⟩ | ⟨hne, hk⟩
    · rcases hb with hb | hb
      · exact h.one j i v u0 g hv hu h1 (hb ▸ h2)
      · rw [hb] at h2
        injection h2 with h2
        have := h.small j v g hv h1
        omega
    · exact h.one j k v u g hv hk h1 h2
end

/-- n marks, from number k on, of list i -/
def marksOf (mk : Nat → Nat → List Value) (i k n : Nat) : List Value := ((List.range n).map fun q => mk i (k + q)).flatten
theorem marksOf_succ (mk : Nat → Nat → List Value) (i k n : Nat) : marksOf mk i k (n + 1) = marksOf mk i k n ++ mk i (k + n) := by
  unfold marksOf
  rw [List.range_succ, List.map_append, List.flatten_append]
  simp
theorem marksOf_length {mk : Nat → Nat → List Value} {c : Nat} (h : ∀ i k, (mk i k).length = c) (i k n : Nat) : (marksOf mk i k n).length = n * c := by
  induction n with
  | zero => simp [marksOf]
  | succ n ih => rw [marksOf_succ, List.length_append, ih, h, Nat.succ_mul]
theorem marksOf_add (mk : Nat → Nat → List Value) (i k n m : Nat) : marksOf mk i k (n + m) = marksOf mk i k n ++ marksOf mk i (k + n) m := by
  induction m with
  | zero => simp [marksOf]
  | succ m ih => rw [← Nat.add_assoc, marksOf_succ, ih, marksOf_succ, List.append_assoc, Nat.add_assoc]
theorem marksOf_take {mk : Nat → Nat → List Value} {c : Nat} (h : ∀ i k, (mk i k).length = c) (i k n m : Nat) (hm : m ≤ n) : (marksOf mk i k n).take (m * c) = marksOf mk i k m := by
  obtain ⟨d, rfl⟩ : ∃ d, n = m + d := ⟨n - m, by omega⟩
  rw [marksOf_add, List.take_left' (marksOf_length h i k m)]
theorem marksOf_one {mk : Nat → Nat → List Value} (h : ∀ i k, ∀ u ∈ mk i k, u.oneCell' = true) (i k n : Nat) : ∀ u ∈ marksOf mk i k n, u.oneCell' = true := by
  intro u hu
  unfold marksOf at hu
  rw [List.mem_flatten] at hu
  obtain ⟨l, hl, hu⟩ := hu
  rw [List.mem_map] at hl
  obtain ⟨q, _, rfl⟩ := hl
  exact h i _ u hu
end Go.Proofs.YtfkkcgdniepgoaaGreat
