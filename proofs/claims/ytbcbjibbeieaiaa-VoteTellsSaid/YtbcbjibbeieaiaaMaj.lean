/- vote.Majority: a set that the call makes, walked. -/
import Derived.Test.YtbcbjibbeieaiaaVoteLaw
import Derived.Test.YtbcbjibbeieaiaaInts
import Derived.Test.YtbcbjibbeieaiaaRows
import Derived.Maps.OwnSet
import Derived.Maps.AppendAt
namespace Go.Proofs.Ytbcbjibbeieaiaa
open Go.RowKit Go.Maps
set_option maxHeartbeats 1000000
set_option maxRecDepth 100000
set_option linter.unusedVariables false

section
variable {P : Program} {w : World}
/-- len of a map that the call makes, at an operation that is guarded -/
theorem wpList_len_guarded {ops : Array Oper} {rest : List Oper} {o : Oper} {a : Act} {Q : Exit → Act → World → Prop} (hw : Region.wanted o (yielded ops a.tmps) = true) (m : Operand) (t : TypeId) (hop : o.op = Op.call { callee := Callee.builtin Builtin.len, args := #[m], argTypes := #[t] })
    (k e : TypeId) (ht : P.underlying t = some (.map k e)) (R : Value → Option (DataW Unit × List MemPlace)) (b n : Nat) (D : DataW Unit) (hm : a.eval m = .map (some b)) (hown : w.ownsMap P k R b n D)
    (hK : wpList P ops Q rest (a.put o.dst (.int .i64 (Maps.size D))) w) : wpList P ops Q (o :: rest) a w :=
  wpList_step fun K' hK' => by
    rw [if_pos hw]
    unfold Oper.wp
    simp [execOp, hop, resolve, invoke, builtin, hm, hown.len ht o.type, Result.andThen]
    exact hK' _ _ hK
end

theorem any_int (x : Int) : ∀ l : List Int, (l.map (Lit.int .i64)).any (fun y : Lit => y.sameKey (.int .i64 x)) = l.contains x
  | [] => rfl
  | a :: r => by
    rw [List.map_cons, List.any_cons, List.contains_cons, any_int x r]
    congr 1
    show decide (IntKind.i64 = IntKind.i64 ∧ a = x) = (x == a)
    by_cases e : a = x
    · subst e
      simp
    · have e' : ¬ x = a := fun h => e h.symm
      simp [e, e']
theorem addKey_int (acc : List Int) (x : Int) : addKey (acc.map (Lit.int .i64)) (.int .i64 x) = (addD acc x).map (Lit.int .i64) := by
  unfold addKey addD
  rw [any_int]
  split <;> simp
theorem foldKey_int (zs acc : List Int) : (zs.map (Lit.int .i64)).foldl addKey (acc.map (Lit.int .i64)) = (zs.foldl addD acc).map (Lit.int .i64) := by
  induction zs generalizing acc with
  | nil => rfl
  | cons z zs ih => rw [List.map_cons, List.foldl_cons, addKey_int, ih, List.foldl_cons]
/-- the set of ids -/
def idSet (n : Int) (zs : List Int) : DataW Unit := setOf (.agg []) ((inR n zs).map (Lit.int .i64))
theorem idSet_size (n : Int) (zs : List Int) : Maps.size (idSet n zs) = (diffs (inR n zs)).length := by
  unfold idSet
  rw [size_setOf _ _ (fun x hx => by obtain ⟨_, _, rfl⟩ := List.mem_map.1 hx; trivial)]
  have := foldKey_int (inR n zs) []
  rw [List.map_nil] at this
  rw [this, List.length_map]
  rfl
theorem inR_in (n : Int) (zs : List Int) (k : Nat) (z : Int) (h : zs[k]? = some z) (hz : 0 ≤ z ∧ z < n) : inR n (zs.take (k + 1)) = inR n (zs.take k) ++ [z] := by
  unfold inR
  rw [List.take_add_one, h, List.filter_append]
  simp [hz.1, hz.2]
theorem inR_out (n : Int) (zs : List Int) (k : Nat) (z : Int) (h : zs[k]? = some z) (hz : ¬ (0 ≤ z ∧ z < n)) : inR n (zs.take (k + 1)) = inR n (zs.take k) := by
  unfold inR
  rw [List.take_add_one, h, List.filter_append]
  have : decide (0 ≤ z ∧ z < n) = false := by simpa using hz
  simp only [Option.toList_some, List.filter_cons, List.filter_nil, this]
  simp
theorem idSet_in (n : Int) (zs : List Int) (k : Nat) (z : Int) (h : zs[k]? = some z) (hz : 0 ≤ z ∧ z < n) : idSet n (zs.take (k + 1)) = (idSet n (zs.take k)).put (.int .i64 z) (.agg []) := by
  unfold idSet
  rw [inR_in n zs k z h hz, List.map_append, List.map_singleton, setOf_snoc]
theorem idSet_out (n : Int) (zs : List Int) (k : Nat) (z : Int) (h : zs[k]? = some z) (hz : ¬ (0 ≤ z ∧ z < n)) : idSet n (zs.take (k + 1)) = idSet n (zs.take k) := by
  unfold idSet
  rw [inR_out n zs k z h hz]

theorem int_law : Keyed Try.prog 3 := int_keyed Try.underlying3
theorem maj_any (B n cap : Nat) (A : Option Addr) (nodes : Int) (zs : List Int) (w : World) (h : SlR w B 1 A n (intVs zs)) (hB : B ≤ w.heap.size) (hn : n ≤ 1000000) (hwf : ∀ z ∈ zs, (Lit.int .i64 z).wf = true)
    (hno : -9223372036854775808 ≤ nodes ∧ nodes ≤ 9223372036854775807) :
    Calls Try.prog 8 #[.int .i64 nodes, .slice A n cap] w fun e w' => e = .returned (.bool (majB nodes zs)) ∧ Below w.heap.size w w' := by
  have hl : zs.length = n := by have := h.len; simpa [intVs] using this
  have hmm := @run_makeMap Try.prog
  have Hl := Lib.hid hl; have Hh := Lib.hid h; have Hwf := Lib.hid hwf
  clear hl h hwf
  obtain ⟨hno1, hno2⟩ := hno
  go_enter Try.func8, Try.ntmps8
  go_wp2
  go_loopw [11] (fun i wr => ∃ k : Nat, k ≤ n ∧ i = .int .i64 k ∧ wr.ownsMap Try.prog 3 unitElem w.heap.size k (idSet nodes (zs.take k)) ∧ Below w.heap.size w wr)
    (fun i _ => n - (intOf i).toNat)
  case atStart => exact ⟨0, Nat.zero_le _, rfl, World.ownsMap_made _ _ _ _, (Below.refl _ _).alloc (Nat.le_refl _) _⟩
  case round =>
    obtain ⟨k, hk, rfl, hown, hb⟩ := hrel
    by_cases hlt : k < n
    · obtain ⟨ad, u, hA, had, hu, hcell⟩ := (Hh.out.below (hb.mono hB)).get hlt
      subst hA
      obtain ⟨z, hz, rfl⟩ := intVs_get hu
      have hkey : keyOf Try.prog 3 (.int .i64 z) = some (.int .i64 z) := keyOf_int_mk Try.underlying3 (Hwf.out z (List.mem_of_getElem? hz))
      by_cases hin : 0 ≤ z ∧ z < nodes
      · have hst := idSet_in nodes zs k z hz hin
        obtain ⟨z1, z2⟩ := hin
        have Hst := Lib.hid hst; have Hown := Lib.hid hown; have Hkey := Lib.hid hkey
        clear hu hz hst hown hkey
        go_wp2_with (at_mapUpdate; refine wpList_mapUpdate_own _ rfl _ _ _ 57 rfl 3 58 int_law Try.underlying57 (unitElem (H := Unit)) w.heap.size k _ rfl Hown.out (by unfold maxLen; omega) _ _ _ rfl rfl Hkey.out _ [] unitElem_mk ?_; intro w1 hown1 hgrow1)
        go_roundw
        case rel => exact ⟨k + 1, by omega, by go_num, by rw [Hst.out]; exact hown1, hb.grown hgrow1 hb.size (fun j hj => by cases hj; exact Nat.le_refl _)⟩
        case measure => simp [intOf]; omega
      · have hst := idSet_out nodes zs k z hz hin
        have Hst := Lib.hid hst; have Hown := Lib.hid hown
        clear hu hz hst hown hkey
        by_cases z1 : 0 ≤ z
        · have z2 : nodes ≤ z := by omega
          clear hin
          go_wp2_with fail
          go_roundw
          case rel => exact ⟨k + 1, by omega, by go_num, by rw [Hst.out]; exact Hown.out.mono (Nat.le_succ _), hb⟩
          case measure => simp [intOf]; omega
        · have z2 : z < 0 := by omega
          clear hin z1
          go_wp2_with fail
          go_roundw
          case rel => exact ⟨k + 1, by omega, by go_num, by rw [Hst.out]; exact Hown.out.mono (Nat.le_succ _), hb⟩
          case measure => simp [intOf]; omega
    · obtain rfl : k = n := by omega
      rw [List.take_of_length_le (by rw [Hl.out]; omega)] at hown
      have hsz := idSet_size nodes zs
      have Hown := Lib.hid hown
      have Hsz := Lib.hid hsz
      clear hown hsz
      by_cases n1 : 1 ≤ nodes
      · have hv : majB nodes zs = decide (nodes / 2 < ((diffs (inR nodes zs)).length : Int)) := by unfold majB; rw [decide_eq_decide]; omega
        have Hv := Lib.hid hv; clear hv
        go_wp2_with (at_len; refine wpList_len_guarded (by rfl) _ 57 rfl 3 58 Try.underlying57 _ w.heap.size k _ rfl Hown.out ?_; rw [Hsz.out])
        go_ret
        rw [Hv.out]
        exact ⟨rfl, hb⟩
      · have hv : majB nodes zs = false := by unfold majB; rw [decide_eq_false_iff_not]; omega
        have Hv := Lib.hid hv; clear hv
        have n1' : nodes < 1 := by omega
        clear n1
        go_wp2_with fail
        go_ret
        rw [Hv.out]
        exact ⟨rfl, hb⟩
end Go.Proofs.Ytbcbjibbeieaiaa
