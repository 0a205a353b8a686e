/- chapter 12: the entries of a hash's versions among entries. -/
import Derived.Test.YtfjilngofdahgaaCIndexBytesTabInsert
import Derived.Test.YtfjilngofdahgaaCIndexBytesTabFind
import Derived.Lib.SliceRun
import Derived.Deep.RegionHeld3

namespace Go.Proofs.Ytfjilngofdahgaa
open Go.RowKit
set_option maxHeartbeats 2000000
set_option maxRecDepth 100000
set_option linter.unusedVariables false

theorem range_snoc (l : List En) (h a b : Int) (k : Nat) (e : En) (he : l[k]? = some e) : rangeE (l.take (k + 1)) h a b = rangeE (l.take k) h a b ++ if e.1 = h ∧ a ≤ e.2.1 ∧ e.2.1 < b then [e] else [] := by
  unfold rangeE
  rw [filter_snoc _ l k e he]
  congr 1
  by_cases hc : e.1 = h ∧ a ≤ e.2.1 ∧ e.2.1 < b <;> simp [hc]
theorem range_le (l : List En) (h a b : Int) : (rangeE l h a b).length ≤ l.length := List.length_filter_le _ _

theorem between_any (A : Option Addr) (n c B : Nat) (l : List En) (h a b : Int) (w : World) (hr : SlR w B 3 A n (enVs l)) (hB : B ≤ w.heap.size) (hn : n ≤ 1000000) :
    Calls Try.prog 41 #[.slice A n c, .int .i64 h, .int .i64 a, .int .i64 b] w fun x w' => ∃ u, x = .returned u ∧ w'.ownsRow w.heap.size 27 3 u (rangeE l h a b).length (enVs (rangeE l h a b)) ∧ Below w.heap.size w w' := by
  obtain ⟨i0, hi0, hz0, hz1, hz2⟩ := info_parts info_en
  have hl : l.length = n := by have := hr.len; rw [enVs_length] at this; omega
  have Hr := Lib.hid hr; have Hl := Lib.hid hl
  clear hr hl
  go_enter Try.func41, Try.ntmps41
  go_wp2_with fail
  go_loopw [9, 14] (fun o i wr => ∃ (k : Nat) (u : Value), u = o ∧ k ≤ n ∧ i = .int .i64 (k : Int) ∧ wr.ownsRow w.heap.size 27 3 u (rangeE (l.take k) h a b).length (enVs (rangeE (l.take k) h a b)) ∧ Below w.heap.size w wr) (fun _ i _ => n - (intOf i).toNat)
  case atStart => exact ⟨0, _, rfl, Nat.zero_le _, rfl, World.ownsRow_nil _ _ _ _, Below.refl _ _⟩
  case round =>
    obtain ⟨k, u, rfl, hk, rfl, hown, hb⟩ := hrel
    have hfl : (rangeE (l.take k) h a b).length ≤ k := Nat.le_trans (range_le _ _ _ _) (by rw [List.length_take]; omega)
    by_cases hlt : k < n
    · obtain ⟨ad, ⟨p0, p1, p2⟩, rfl, hadB, hpq, hat⟩ := Hr.out.en (k := k) (by omega)
      have hat1 := hat.below hb (by rw [add_block]; omega)
      obtain ⟨hc0, hc1, hc2⟩ := hat1
      dsimp only at hc0 hc1 hc2
      have hsn := range_snoc l h a b k _ hpq
      dsimp only at hsn
      have Hsn := Lib.hid hsn; have Hown := Lib.hid hown; have Hb := Lib.hid hb
      have hbs := hb.size
      generalize rangeE (l.take k) h a b = F at hfl Hown Hsn
      have hlt' : (k : Int) < n := by omega
      clear hsn hown hb hat hpq
      by_cases h0 : p0 = h
      · by_cases h1 : a ≤ p1
        · by_cases h2 : p1 < b
          · have Hsn := Lib.hid (Hsn.out.trans (by rw [if_pos ⟨h0, h1, h2⟩]))
            subst h0
            go_wp2_with (at_builtin; refine wpList_append_lies _ rfl (.tmp 34) (.tmp 36) _ rfl w.heap.size 27 i0 _ 3 24 Try.underlying32 hi0 hz0 hz1 hz2 rfl (by omega) u F.length (enVs F) rfl ((Hown.out.alloc _).alloc _) ⟨wr.heap.size + 1, 0, none⟩ 1 1 [.int .i64 p0, .int .i64 p1, .int .i64 p2] rfl rfl (World.news_of_block (cs := #[.int .i64 p0, .int .i64 p1, .int .i64 p2]) (by have := heap_alloc_new (wr.alloc (.cells #[.int .i64 p0, .int .i64 p1, .int .i64 p2] 27)) (.cells #[.int .i64 p0, .int .i64 p1, .int .i64 p2] 27); simpa using this)) (by simp [Value.oneCell']) (by omega) (by simp only [maxLen]; omega) (by omega) (by simp <;> omega) (wr.heap.size + 2) (by simp) ?_; intro g cp w2 hown2 hgrow hat2 hlt2)
            have hb2 : Below w.heap.size w w2 := ((Hb.out.alloc hbs _).alloc (by simp; omega) _).grown hgrow (by simp; omega) (fun q hq => (Hown.out.lt q hq).1)
            go_roundw
            case rel =>
              refine ⟨k + 1, _, rfl, by omega, by go_num, ?_, hb2⟩
              rw [Hsn.out, enVs_append, List.length_append]
              exact hown2
            case measure => simp [intOf]; omega
          · have Hsn := Lib.hid (Hsn.out.trans (by rw [if_neg (fun q => h2 q.2.2)]))
            subst h0
            have h2' : decide (p1 < b) = false := decide_eq_false h2
            go_wp2_with fail
            have hb2 : Below w.heap.size w _ := Hb.out.alloc hbs (.cells #[.int .i64 p0, .int .i64 p1, .int .i64 p2] 27)
            go_roundw
            case rel =>
              refine ⟨k + 1, u, rfl, by omega, by go_num, ?_, hb2⟩
              rw [Hsn.out, List.append_nil]
              exact Hown.out.alloc _
            case measure => simp [intOf]; omega
        · have Hsn := Lib.hid (Hsn.out.trans (by rw [if_neg (fun q => h1 q.2.1)]))
          subst h0
          have h1' : decide (a ≤ p1) = false := decide_eq_false h1
          go_wp2_with fail
          have hb2 : Below w.heap.size w _ := Hb.out.alloc hbs (.cells #[.int .i64 p0, .int .i64 p1, .int .i64 p2] 27)
          go_roundw
          case rel =>
            refine ⟨k + 1, u, rfl, by omega, by go_num, ?_, hb2⟩
            rw [Hsn.out, List.append_nil]
            exact Hown.out.alloc _
          case measure => simp [intOf]; omega
      · have Hsn := Lib.hid (Hsn.out.trans (by rw [if_neg (fun q => h0 q.1)]))
        have h0' : (p0 == h) = false := by simpa using h0
        go_wp2_with fail
        have hb2 : Below w.heap.size w _ := Hb.out.alloc hbs (.cells #[.int .i64 p0, .int .i64 p1, .int .i64 p2] 27)
        go_roundw
        case rel =>
          refine ⟨k + 1, u, rfl, by omega, by go_num, ?_, hb2⟩
          rw [Hsn.out, List.append_nil]
          exact Hown.out.alloc _
        case measure => simp [intOf]; omega
    · obtain rfl : k = n := by omega
      have hd : decide ((k : Int) < (k : Int)) = false := by simp
      have ht : l.take k = l := List.take_of_length_le (Nat.le_of_eq Hl.out)
      rw [ht] at hown
      clear ht hfl
      have Hown := Lib.hid hown
      clear hown
      go_wp2_with fail
      go_ret
      exact ⟨u, rfl, Hown.out, hb⟩
end Go.Proofs.Ytfjilngofdahgaa

/- slices.Clone of entries. -/
namespace Go.Proofs.Ytfjilngofdahgaa
open Go.RowKit
set_option maxHeartbeats 2000000
set_option maxRecDepth 100000
set_option linter.unusedVariables false
attribute [local go_sem] Lib.run_eql_slice_nil

theorem own_mono {w : World} {b1 b2 : Nat} {e : TypeId} {size n : Nat} {v : Value} {xs : List Value} (h : w.ownsRow b1 e size v n xs) (hb : b2 ≤ b1) : w.ownsRow b2 e size v n xs :=
  ⟨h.1, h.2.imp id fun ⟨g, cap, cur, h1, h2, h3⟩ => ⟨g, cap, cur, h1, Nat.le_trans hb h2, h3⟩⟩

theorem clone_any (A : Option Addr) (n c B : Nat) (l : List En) (w : World) (hr : SlR w B 3 A n (enVs l)) (hB : B ≤ w.heap.size) (hn : n ≤ 1000000) (hnil : A = none → n = 0 ∧ c = 0) :
    Calls Try.prog 61 #[.slice A n c] w fun x w' => ∃ u, x = .returned u ∧ w'.ownsRow w.heap.size 27 3 u n (enVs l) ∧ Below w.heap.size w w' := by
  obtain ⟨i0, hi0, hz0, hz1, hz2⟩ := info_parts info_en
  have hl : l.length = n := by have := hr.len; rw [enVs_length] at this; omega
  cases A with
  | none =>
    obtain ⟨rfl, rfl⟩ := hnil rfl
    obtain rfl : l = [] := List.length_eq_zero_iff.1 hl
    clear hr hnil hl
    go_enter Try.func61, Try.ntmps61
    go_wp2_with fail
    go_ret
    exact ⟨_, rfl, World.ownsRow_nil _ _ _ _, Below.refl _ _⟩
  | some ad =>
    have hb0 : Below w.heap.size w (w.alloc (.cells #[] 27)) := (Below.refl _ _).alloc (Nat.le_refl _) _
    have hr0 := hr.below (hb0.mono hB)
    have hown0 : (w.alloc (.cells #[] 27)).ownsRow w.heap.size 27 3 (.slice (some ⟨w.heap.size, 0, none⟩) 0 0) 0 [] :=
      ⟨rfl, .inr ⟨w.heap.size, 0, #[], rfl, Nat.le_refl _, heap_alloc_new _ _, Nat.le_refl _, Nat.zero_le _, rfl, rfl⟩⟩
    have Hb0 := Lib.hid hb0; have Hr := Lib.hid hr0; have Hown := Lib.hid hown0
    clear hr hnil hb0 hr0 hown0
    go_enter Try.func61, Try.ntmps61
    go_wp2_with (at_builtin; refine wpList_append_sl _ rfl (.tmp 5) (.tmp 6) _ rfl w.heap.size 27 i0 _ 3 24 Try.underlying32 hi0 hz0 hz1 hz2 rfl (by omega) (.slice (some ⟨w.heap.size, 0, none⟩) 0 0) 0 [] rfl Hown.out B (some ad) n c (enVs l) rfl Hr.out (enVs_one l) (by simp only [maxLen]; omega) (by omega) (by simp) ?_; intro v1 w1 hown1 hg1 hat1)
    go_ret
    refine ⟨v1, rfl, by simpa using hown1, Hb0.out.grown hg1 (by simp) (fun q hq => (Hown.out.lt q hq).1)⟩

end Go.Proofs.Ytfjilngofdahgaa

/- chapter 12: the tab: what it is; New, Len, All, Find, Range. -/
namespace Go.Proofs.Ytfjilngofdahgaa
open Go.RowKit
set_option maxHeartbeats 2000000
set_option maxRecDepth 100000
set_option linter.unusedVariables false
attribute [local go_sem] Lib.run_eql_slice_nil

/-- a tab at block T, its row in block r (if it has one) -/
def TabIs (w : World) (base T : Nat) (r : Option Nat) (l : List En) : Prop :=
  ∃ v, BlkIs w T 59 #[v] ∧ w.ownsRow base 27 3 v l.length (enVs l) ∧ v.ownBlock = r ∧ r ≠ some T

theorem new_any (w : World) : Calls Try.prog 14 #[] w fun x w' => x = .returned (.pointer (some ⟨w.heap.size, 0, none⟩)) ∧ (∀ base, TabIs w' base w.heap.size none []) ∧ Below w.heap.size w w' := by
  go_enter Try.func14, Try.ntmps14
  go_wp2_with fail
  go_ret
  exact ⟨rfl, fun base => ⟨_, BlkIs.new _ _ _, World.ownsRow_nil _ _ _ _, rfl, by simp⟩, (Below.refl _ _).alloc (Nat.le_refl _) _⟩

theorem len_any (base T : Nat) (r : Option Nat) (l : List En) (w : World) (h : TabIs w base T r l) (hn : l.length ≤ 1000000) :
    Calls Try.prog 26 #[.pointer (some ⟨T, 0, none⟩)] w fun x w' => x = .returned (.int .i64 (l.length : Int)) ∧ w = w' := by
  obtain ⟨v, hB, hr, _⟩ := h
  have hc0 := hB.cell 0
  obtain ⟨A, c, rfl, hnc⟩ := own_slice hr
  simp at hc0
  clear hB hr
  go_enter Try.func26, Try.ntmps26
  go_wp2_with fail
  go_ret
  exact ⟨rfl, rfl⟩

theorem all_any (base T : Nat) (r : Option Nat) (l : List En) (w : World) (h : TabIs w base T r l) (hn : l.length ≤ 1000000) :
    Calls Try.prog 38 #[.pointer (some ⟨T, 0, none⟩)] w fun x w' => ∃ u, x = .returned u ∧ w'.ownsRow w.heap.size 27 3 u l.length (enVs l) ∧ Below w.heap.size w w' := by
  obtain ⟨v, hB, hr, _⟩ := h
  have hc0 := hB.cell 0
  obtain ⟨A, c, rfl, hnc⟩ := own_slice hr
  simp at hc0
  have hnil : A = none → l.length = 0 ∧ c = 0 := by
    rintro rfl
    rcases hr.2 with ⟨h1, h2⟩ | ⟨g, cap, cur, h1, _⟩
    · injection h1 with h3 h4 h5; exact ⟨h2, h5⟩
    · injection h1 with h3; cases h3
  have hcl := clone_any A l.length c w.heap.size l w (SlR.own hr) (Nat.le_refl _) hn hnil
  clear hB hr
  go_enter Try.func38, Try.ntmps38
  go_wp2_with (go_at_call 61; refine hcl.mono ?_; rintro x w1 ⟨u, rfl, hown1, hb1⟩)
  go_ret
  exact ⟨u, rfl, hown1, hb1⟩

theorem find_any (base T : Nat) (r : Option Nat) (l : List En) (h v : Int) (w : World) (ht : TabIs w base T r l) (hn : l.length ≤ 1000000) :
    Calls Try.prog 25 #[.pointer (some ⟨T, 0, none⟩), .int .i64 h, .int .i64 v] w fun x w' => ∃ u, x = .returned u ∧ w'.ownsRow w.heap.size 3 1 u (findE l h v).length (intVs (findE l h v)) ∧ Below w.heap.size w w' := by
  have hal := all_any base T r l w ht hn
  have hpl := fun A n c w (hr : SlR w w.heap.size 3 A n (enVs l)) hn => places_any A n c w.heap.size l h v w hr (Nat.le_refl _) hn
  have Hpl := Lib.hid hpl
  clear ht hpl
  go_enter Try.func25, Try.ntmps25
  go_wp2_with (first
    | (go_at_call 38; refine hal.mono ?_; rintro x w1 ⟨u, rfl, hown1, hb1⟩; obtain ⟨A, c, rfl, hnc⟩ := own_slice hown1; have hr1 := SlR.own hown1)
    | (go_at_call 42; refine (Hpl.out _ _ _ _ hr1 hn).mono ?_; rintro x w2 ⟨u2, rfl, hown2, hb2⟩))
  go_ret
  exact ⟨u2, rfl, own_mono hown2 hb1.size, hb1.trans (hb2.mono hb1.size)⟩

theorem range_any (base T : Nat) (r : Option Nat) (l : List En) (h a b : Int) (w : World) (ht : TabIs w base T r l) (hn : l.length ≤ 1000000) :
    Calls Try.prog 22 #[.pointer (some ⟨T, 0, none⟩), .int .i64 h, .int .i64 a, .int .i64 b] w fun x w' => ∃ u, x = .returned u ∧ w'.ownsRow w.heap.size 27 3 u (rangeE l h a b).length (enVs (rangeE l h a b)) ∧ Below w.heap.size w w' := by
  have hal := all_any base T r l w ht hn
  have hpl := fun A n c w (hr : SlR w w.heap.size 3 A n (enVs l)) hn => between_any A n c w.heap.size l h a b w hr (Nat.le_refl _) hn
  have Hpl := Lib.hid hpl
  clear ht hpl
  go_enter Try.func22, Try.ntmps22
  go_wp2_with (first
    | (go_at_call 38; refine hal.mono ?_; rintro x w1 ⟨u, rfl, hown1, hb1⟩; obtain ⟨A, c, rfl, hnc⟩ := own_slice hown1; have hr1 := SlR.own hown1)
    | (go_at_call 41; refine (Hpl.out _ _ _ _ hr1 hn).mono ?_; rintro x w2 ⟨u2, rfl, hown2, hb2⟩))
  go_ret
  exact ⟨u2, rfl, own_mono hown2 hb1.size, hb1.trans (hb2.mono hb1.size)⟩
end Go.Proofs.Ytfjilngofdahgaa

/- chapter 12: Add. -/
namespace Go.Proofs.Ytfjilngofdahgaa
open Go.RowKit
set_option maxHeartbeats 4000000
set_option maxRecDepth 100000
set_option linter.unusedVariables false

/-- of the blocks that were, just the tab's and its row's may have turned -/
structure TabStep (w w' : World) (T : Nat) (r r' : Option Nat) : Prop where
  os : w'.os = w.os
  tape : w'.tape = w.tape
  output : w'.output = w.output
  size : w.heap.size ≤ w'.heap.size
  block : ∀ k, k < w.heap.size → k ≠ T → some k ≠ r → w'.heap[k]? = w.heap[k]?
  row : r' = r ∨ ∃ g, r' = some g ∧ w.heap.size ≤ g
theorem TabStep.refl (w : World) (T : Nat) (r : Option Nat) : TabStep w w T r r := ⟨rfl, rfl, rfl, Nat.le_refl _, fun _ _ _ _ => rfl, .inl rfl⟩
theorem TabStep.trans {w w1 w2 : World} {T : Nat} {r r1 r2 : Option Nat} (h : TabStep w w1 T r r1) (k : TabStep w1 w2 T r1 r2) : TabStep w w2 T r r2 where
  os := k.os.trans h.os
  tape := k.tape.trans h.tape
  output := k.output.trans h.output
  size := Nat.le_trans h.size k.size
  block := fun j hj h1 h2 => (k.block j (Nat.lt_of_lt_of_le hj h.size) h1 (by
    rcases h.row with h3 | ⟨g, h3, h4⟩
    · rw [h3]; exact h2
    · rw [h3]; intro h5; injection h5 with h5; omega)).trans (h.block j hj h1 h2)
  row := by
    rcases k.row with h3 | ⟨g, h3, h4⟩
    · rw [h3]; exact h.row
    · exact .inr ⟨g, h3, Nat.le_trans h.size h4⟩
theorem TabStep.of_below {w w' : World} {T : Nat} {r : Option Nat} (h : Below w.heap.size w w') : TabStep w w' T r r := by
  exact ⟨h.os, h.tape, h.output, h.size, fun k hk _ _ => h.block k hk, .inl rfl⟩
theorem TabIs.below {w w' : World} {base T : Nat} {r : Option Nat} {l : List En} (h : TabIs w base T r l) (hb : Below w.heap.size w w') : TabIs w' base T r l := by
  obtain ⟨v, h1, h2, h3, h4⟩ := h
  exact ⟨v, h1.below hb h1.lt, own_below h2 hb (fun q hq => (h2.lt q hq).2), h3, h4⟩

theorem add_any (base T : Nat) (r : Option Nat) (l ps : List En) (A : Option Addr) (n c : Nat) (w : World) (ht : TabIs w base T r l) (hs : SortedE l) (hr : SlR w w.heap.size 3 A n (enVs ps)) (hap : 0 < n → ∀ ad, A = some ad → ad.block ≠ T ∧ some ad.block ≠ r) (hbase : base ≤ w.heap.size) (hn : l.length + n ≤ 1000000) :
    Calls Try.prog 15 #[.pointer (some ⟨T, 0, none⟩), .slice A n c] w fun x w' => x = .returned (.int .i64 (((addsE l ps).length : Int) - (l.length : Int))) ∧ ∃ r', TabIs w' base T r' (addsE l ps) ∧ TabStep w w' T r r' := by
  have hl : ps.length = n := by have := hr.len; rw [enVs_length] at this; omega
  have Hr := Lib.hid hr; have Hl := Lib.hid hl; have Hap := Lib.hid hap; have Hs := Lib.hid hs; have Ht := Lib.hid ht
  clear hr hl hap hs ht
  go_enter Try.func15, Try.ntmps15
  go_wp2_with fail
  go_loopw [5, 14] (fun o i wr => ∃ (k : Nat) (r1 : Option Nat), o = .int .i64 (((addsE l (ps.take k)).length : Int) - (l.length : Int)) ∧ k ≤ n ∧ i = .int .i64 (k : Int) ∧ TabIs wr base T r1 (addsE l (ps.take k)) ∧ TabStep w wr T r r1) (fun _ i _ => n - (intOf i).toNat)
  case atStart => exact ⟨0, r, by simp [addsE], Nat.zero_le _, rfl, Ht.out, TabStep.refl _ _ _⟩
  case round =>
    obtain ⟨k, r1, rfl, hk, rfl, ht1, hst⟩ := hrel
    by_cases hlt : k < n
    · obtain ⟨ad, ⟨p0, p1, p2⟩, rfl, hadB, hpq, hat⟩ := Hr.out.en (k := k) (by omega)
      obtain ⟨hap1, hap2⟩ := Hap.out (by omega) ad rfl
      have hblk : wr.heap[ad.block]? = w.heap[ad.block]? := hst.block _ hadB hap1 hap2
      have hat1 : enAt wr (ad.add (k * 3)) (p0, p1, p2) := by
        have hx : ∀ o, wr.cell? ⟨(ad.add (k * 3)).block, o, none⟩ = w.cell? ⟨(ad.add (k * 3)).block, o, none⟩ := fun o => World.cell?_of_block (w := w) (w' := wr) (a := ⟨(ad.add (k * 3)).block, o, none⟩) (by show wr.heap[(ad.add (k * 3)).block]? = _; rw [add_block]; exact hblk)
        refine ⟨?_, (hx _).trans hat.2.1, (hx _).trans hat.2.2⟩
        exact (World.cell?_of_block (w := w) (w' := wr) (a := ad.add (k * 3)) (by rw [add_block]; exact hblk)).trans hat.1
      obtain ⟨hc0, hc1, hc2⟩ := hat1
      dsimp only at hc0 hc1 hc2
      have hsn : addsE l (ps.take (k + 1)) = insE (addsE l (ps.take k)) (p0, p1, p2) := by
        rw [List.take_add_one, hpq]; exact adds_snoc _ _ _
      have hso := adds_sorted Hs.out (ps.take k)
      have hle := adds_le l (ps.take k)
      have htk : (ps.take k).length = k := by rw [List.length_take, Hl.out]; omega
      rw [htk] at hle
      generalize addsE l (ps.take k) = L at hsn hso hle ht1 ⊢
      obtain ⟨W, hW⟩ : ∃ W, wr.alloc (.cells #[.int .i64 p0, .int .i64 p1, .int .i64 p2] 27) = W := ⟨_, rfl⟩
      have hb1 : Below wr.heap.size wr W := by rw [← hW]; exact (Below.refl _ _).alloc (Nat.le_refl _) _
      have hE : BlkIs W wr.heap.size 27 #[.int .i64 p0, .int .i64 p1, .int .i64 p2] := by rw [← hW]; exact BlkIs.new _ _ _
      have ht2 := ht1.below hb1
      obtain ⟨v, hvB, hown, hvr, hrT⟩ := ht2
      obtain ⟨Ar, cr, rfl, hncr⟩ := own_slice hown
      have hS0 : ∀ wx, Below W.heap.size W wx → wx.cell? ⟨T, 0, none⟩ = some (.slice Ar L.length cr) ∧ wx.cell? ⟨wr.heap.size, 0, none⟩ = some (.int .i64 p0) ∧ wx.cell? ⟨wr.heap.size, 1, none⟩ = some (.int .i64 p1) ∧ wx.cell? ⟨wr.heap.size, 2, none⟩ = some (.int .i64 p2) := fun wx h => by
        have f1 := (hvB.below h hvB.lt).cell 0; have f2 := (hE.below h hE.lt).cell
        exact ⟨f1, f2 0, f2 1, f2 2⟩
      have hsr0 : ∀ wx, Below W.heap.size W wx → Calls Try.prog 34 #[.slice Ar L.length cr, .agg #[.int .i64 p0, .int .i64 p1, .int .i64 p2], .func (.func 35) #[] #[]] wx fun x w' => x = .returned (.tuple #[.int .i64 (rankE L (p0, p1, p2) : Nat), .bool (hasE L (p0, p1, p2))]) ∧ Below wx.heap.size wx w' := fun wx h =>
        search_any Ar L.length cr W.heap.size L (p0, p1, p2) wx ((SlR.own hown).below h) h.size hso (by omega)
      have hcE := hE.cell
      have hc10 := hcE 0; have hc11 := hcE 1; have hc12 := hcE 2
      have HS := Lib.hid hS0; have Hsr := Lib.hid hsr0
      have hlt' : (k : Int) < n := by omega
      have Hsn := Lib.hid hsn; have Hso := Lib.hid hso; have Ht1 := Lib.hid ht1; have Hst := Lib.hid hst; have Hb1 := Lib.hid hb1; have HE := Lib.hid hE; have HvB := Lib.hid hvB; have Hown := Lib.hid hown; have Hvr := Lib.hid hvr; have HrT := Lib.hid hrT
      clear hsn hso ht1 hst hb1 hE hvB hown hvr hrT hS0 hsr0 hcE hc10 hc11 hc12 hat hpq hap1 hap2 hblk htk
      have HB := Below.refl W.heap.size W
      have hS := HS.out _ HB
      go_wp2_with fail
      go_region_held3 (fun wx => wx.cell? ⟨T, 0, none⟩ = some (.slice Ar L.length cr) ∧ wx.cell? ⟨wr.heap.size, 0, none⟩ = some (.int .i64 p0) ∧ wx.cell? ⟨wr.heap.size, 1, none⟩ = some (.int .i64 p1) ∧ wx.cell? ⟨wr.heap.size, 2, none⟩ = some (.int .i64 p2)) (first | exact hS | go_keep) ((first
        | (go_at_call 34; refine (Hsr.out _ (by first | exact HB | exact below_drewN HB 1)).mono ?_; rintro x wx ⟨rfl, hb⟩; have HB := HB.trans ((by first | exact hb | exact below_undrew hb : Below _ _ _).mono HB.size); have hS := HS.out _ HB)))
      have hins1 : hasE L (p0, p1, p2) = true → insE L (p0, p1, p2) = L := fun h => by unfold insE newE; rw [h]; rfl
      have hins2 : ¬ (0 ≤ p0 ∧ 0 ≤ p1 ∧ 0 ≤ p2) → insE L (p0, p1, p2) = L := fun h => by
        have hok : okE (p0, p1, p2) = false := by unfold okE; exact decide_eq_false h
        unfold insE newE
        rw [hok, Bool.and_false]
        rfl
      have hins3 : hasE L (p0, p1, p2) = false → 0 ≤ p0 ∧ 0 ≤ p1 ∧ 0 ≤ p2 → insE L (p0, p1, p2) = L.take (rankE L (p0, p1, p2)) ++ (p0, p1, p2) :: L.drop (rankE L (p0, p1, p2)) := fun h h' => by
        have hok : okE (p0, p1, p2) = true := by unfold okE; exact decide_eq_true h'
        unfold insE newE
        rw [h, hok]
        rfl
      have hrk := rank_le L (p0, p1, p2)
      have Hins1 := Lib.hid hins1; have Hins2 := Lib.hid hins2; have Hins3 := Lib.hid hins3
      clear hins1 hins2 hins3
      have hskip : insE L (p0, p1, p2) = L → addsE l (ps.take (k + 1)) = L := fun h => Hsn.out.trans h
      have Hskip := Lib.hid hskip
      clear hskip
      generalize rankE L (p0, p1, p2) = rk at Hins3 hrk ⊢
      generalize hasE L (p0, p1, p2) = hh at Hins1 Hins3 ⊢
      obtain ⟨s1, s2, s3, s4⟩ := hS
      have hend : ∀ wx, Below W.heap.size W wx → TabIs wx base T r1 L ∧ TabStep w wx T r r1 := fun wx h => by
        refine ⟨?_, Hst.out.trans (TabStep.of_below (Hb1.out.trans (h.mono Hb1.out.size)))⟩
        exact TabIs.below ⟨_, HvB.out, Hown.out, Hvr.out, HrT.out⟩ h
      have Hend := Lib.hid hend
      clear hend
      cases hh with
      | true =>
        go_wp2_with fail
        go_roundw
        case rel =>
          have h1 := Hskip.out (Hins1.out rfl)
          exact ⟨k + 1, r1, by rw [h1], by omega, by go_num, by rw [h1]; exact (Hend.out _ (by first | exact HB | exact below_drewN HB 1)).1, (Hend.out _ (by first | exact HB | exact below_drewN HB 1)).2⟩
        case measure => simp [intOf]; omega
      | false =>
        by_cases h0 : 0 ≤ p0
        · by_cases h1 : 0 ≤ p1
          · by_cases h2 : 0 ≤ p2
            · have Hq := Lib.hid (Hsn.out.trans (Hins3.out rfl ⟨h0, h1, h2⟩))
              have hins : ∀ wy, Below W.heap.size W wy → Calls Try.prog 36 #[.slice Ar L.length cr, .int .i64 rk, .slice (some ⟨wy.heap.size, 0, none⟩) 1 1] (wy.alloc (.cells #[.int .i64 p0, .int .i64 p1, .int .i64 p2] 27)).drew fun x w5 => ∃ v', x = .returned v' ∧
                  w5.ownsRow base 27 3 v' (L.length + 1) (enVs (L.take rk ++ (p0, p1, p2) :: L.drop rk)) ∧ BlkIs w5 T 59 #[.slice Ar L.length cr] ∧ TabStep wy w5 T r1 v'.ownBlock ∧ v'.ownBlock ≠ some T ∧ (w5.cell? ⟨T, 0, none⟩ = some (.slice Ar L.length cr) ∧ w5.cell? ⟨wr.heap.size, 0, none⟩ = some (.int .i64 p0) ∧ w5.cell? ⟨wr.heap.size, 1, none⟩ = some (.int .i64 p1) ∧ w5.cell? ⟨wr.heap.size, 2, none⟩ = some (.int .i64 p2)) := fun wy hy => by
                have q1 : Below wy.heap.size wy (wy.alloc (.cells #[.int .i64 p0, .int .i64 p1, .int .i64 p2] 27)).drew := below_drewN ((Below.refl _ _).alloc (Nat.le_refl _) (.cells #[.int .i64 p0, .int .i64 p1, .int .i64 p2] 27)) 1
                have q2 := hy.trans (q1.mono hy.size)
                have hTlt := HvB.out.lt
                have hownlt := Hown.out.lt
                have q3 := own_below Hown.out q2 (fun q hq => (Hown.out.lt q hq).2)
                have q4 : BlkIs (wy.alloc (.cells #[.int .i64 p0, .int .i64 p1, .int .i64 p2] 27)).drew wy.heap.size 27 #[.int .i64 p0, .int .i64 p1, .int .i64 p2] := BlkIs.new wy _ _
                have hbs : base ≤ wy.heap.size := Nat.le_trans hbase (Nat.le_trans Hst.out.size (Nat.le_trans Hb1.out.size hy.size))
                have hvr := Hvr.out
                refine (insert_any base rk L.length wy.heap.size _ L (p0, p1, p2) _ q3 q4 (by intro h; have := (hownlt _ h.symm).2; have := hy.size; omega) hrk (by omega) (by simp; omega)).mono ?_
                rintro x w5 ⟨v', rfl, h1, h2, h3⟩
                have hT5 : BlkIs w5 T 59 #[.slice Ar L.length cr] := by
                  have hTy := HvB.out.below q2 HvB.out.lt
                  have := h2.block T hTy.lt (by rw [hvr]; exact fun h => HrT.out h.symm)
                  unfold BlkIs
                  rw [this]
                  exact hTy
                have hE5 : BlkIs w5 wr.heap.size 27 #[.int .i64 p0, .int .i64 p1, .int .i64 p2] := by
                  have hEy := HE.out.below q2 HE.out.lt
                  obtain ⟨v0, g1, g2, g3, _⟩ := Ht1.out
                  have := h2.block wr.heap.size hEy.lt (by rw [hvr]; intro h; have := (g2.lt _ (g3.trans h.symm)).2; omega)
                  unfold BlkIs
                  rw [this]
                  exact hEy
                have hS5 := (⟨hT5.cell 0, hE5.cell 0, hE5.cell 1, hE5.cell 2⟩ : w5.cell? ⟨T, 0, none⟩ = some (.slice Ar L.length cr) ∧ w5.cell? ⟨wr.heap.size, 0, none⟩ = some (.int .i64 p0) ∧ w5.cell? ⟨wr.heap.size, 1, none⟩ = some (.int .i64 p1) ∧ w5.cell? ⟨wr.heap.size, 2, none⟩ = some (.int .i64 p2))
                refine ⟨v', rfl, h1, hT5, ⟨h2.os.trans q1.os, h2.tape.trans q1.tape, h2.output.trans q1.output, Nat.le_trans q1.size h2.size, fun j hj hj1 hj2 => (h2.block j (by simp; omega) (by rw [hvr]; exact hj2)).trans (q1.block j hj), ?_⟩, ?_, hS5⟩
                · rcases h3 with h3 | h3
                  · exact .inl (h3.trans hvr)
                  · exact .inr ⟨_, h3, by simp⟩
                · rcases h3 with h3 | h3
                  · rw [h3, hvr]; exact HrT.out
                  · rw [h3]; intro h; injection h with h; have := hy.size; simp at h; omega
              have Hins := Lib.hid hins
              clear hins
              go_wp2_with fail
              have hTx := Nat.lt_of_lt_of_le HvB.out.lt HB.size
              have hEx := Nat.lt_of_lt_of_le HE.out.lt HB.size
              go_region_law (go_simp; go_at_call 36; refine (Hins.out _ (by first | exact HB | exact below_drewN HB 1)).mono ?_; rintro x w5 ⟨v', rfl, hown5, hT5, hst5, hne5, hS⟩; have hf5 := hT5.free 0; obtain ⟨A5, c5, rfl, hnc5⟩ := own_slice hown5; obtain ⟨s5, _, _, _⟩ := id hS)
              all_goals
                have hq := Hq.out
                have hql : (addsE l (ps.take (k + 1))).length = L.length + 1 := by rw [hq, List.length_append, List.length_cons, List.length_take, List.length_drop]; omega
                have hst6 := Hst.out.trans ((TabStep.of_below (Hb1.out.trans (HB.mono Hb1.out.size))).trans hst5)
                have hT6 := hT5.put 0 (.slice A5 (L.length + 1) c5)
                have hown6 := own_far hown5 (a := ⟨T, 0, none⟩) hne5 (.slice A5 (L.length + 1) c5)
                have Hql := Lib.hid hql
                clear hq hql
                go_wp2_with fail
                go_roundw
                case rel =>
                  refine ⟨k + 1, (Value.slice A5 (L.length + 1) c5).ownBlock, ?_, by omega, by go_num, ⟨_, hT6, ?_, rfl, hne5⟩, hst6.trans ⟨rfl, rfl, rfl, by simp, fun j _ hj _ => heap_setCell_other _ _ _ _ (by exact hj), .inl rfl⟩⟩
                  · rw [Hql.out]; congr 1; omega
                  · rw [Hql.out, Hq.out]; exact hown6
                case measure => simp [intOf]; omega
            · have h2' : decide (0 ≤ p2) = false := decide_eq_false h2
              go_wp2_with fail
              go_roundw
              case rel =>
                have h1 := Hskip.out (Hins2.out (fun q => h2 q.2.2))
                exact ⟨k + 1, r1, by rw [h1], by omega, by go_num, by rw [h1]; exact (Hend.out _ (by first | exact HB | exact below_drewN HB 1)).1, (Hend.out _ (by first | exact HB | exact below_drewN HB 1)).2⟩
              case measure => simp [intOf]; omega
          · have h1' : decide (0 ≤ p1) = false := decide_eq_false h1
            go_wp2_with fail
            go_roundw
            case rel =>
              have h1 := Hskip.out (Hins2.out (fun q => h1 q.2.1))
              exact ⟨k + 1, r1, by rw [h1], by omega, by go_num, by rw [h1]; exact (Hend.out _ (by first | exact HB | exact below_drewN HB 1)).1, (Hend.out _ (by first | exact HB | exact below_drewN HB 1)).2⟩
            case measure => simp [intOf]; omega
        · have h0' : decide (0 ≤ p0) = false := decide_eq_false h0
          go_wp2_with fail
          go_roundw
          case rel =>
            have h1 := Hskip.out (Hins2.out (fun q => h0 q.1))
            exact ⟨k + 1, r1, by rw [h1], by omega, by go_num, by rw [h1]; exact (Hend.out _ (by first | exact HB | exact below_drewN HB 1)).1, (Hend.out _ (by first | exact HB | exact below_drewN HB 1)).2⟩
          case measure => simp [intOf]; omega
    · obtain rfl : k = n := by omega
      have hd : decide ((k : Int) < (k : Int)) = false := by simp
      have htk : ps.take k = ps := List.take_of_length_le (Nat.le_of_eq Hl.out)
      rw [htk] at ht1 ⊢
      have Ht1 := Lib.hid ht1; have Hst := Lib.hid hst
      clear htk ht1 hst
      go_wp2_with fail
      go_ret
      exact ⟨rfl, r1, Ht1.out, Hst.out⟩
end Go.Proofs.Ytfjilngofdahgaa
