/- chapter 12: the places of a version among entries. -/
import Derived.Test.YtfjilngofdahgaaJIndexBytes2
import Derived.Test.YtfjilngofdahgaaJIndexBytes1

namespace Go.Proofs.Ytfjilngofdahgaa
open Go.RowKit
set_option maxHeartbeats 2000000
set_option maxRecDepth 100000
set_option linter.unusedVariables false

theorem info_int : (Try.prog.info? 3).map (fun i => (i.zero, i.size, i.bytes)) = some (some (.int .i64 0), 1, 8) := by kernel_rfl

theorem find_snoc (l : List En) (h v : Int) (k : Nat) (e : En) (he : l[k]? = some e) : findE (l.take (k + 1)) h v = findE (l.take k) h v ++ if e.1 = h ∧ e.2.1 = v then [e.2.2] else [] := by
  unfold findE
  rw [filter_snoc _ l k e he, List.map_append]
  congr 1
  by_cases hc : e.1 = h ∧ e.2.1 = v <;> simp [hc]
theorem find_le (l : List En) (h v : Int) : (findE l h v).length ≤ l.length := by
  unfold findE
  rw [List.length_map]
  exact List.length_filter_le _ _

theorem places_any (A : Option Addr) (n c B : Nat) (l : List En) (h v : Int) (w : World) (hr : SlR w B 3 A n (enVs l)) (hB : B ≤ w.heap.size) (hn : n ≤ 1000000) :
    Calls Try.prog 42 #[.slice A n c, .int .i64 h, .int .i64 v] w fun x w' => ∃ u, x = .returned u ∧ w'.ownsRow w.heap.size 3 1 u (findE l h v).length (intVs (findE l h v)) ∧ Below w.heap.size w w' := by
  obtain ⟨i0, hi0, hz0, hz1, hz2⟩ := info_parts info_int
  have hl : l.length = n := by have := hr.len; rw [enVs_length] at this; omega
  have Hr := Lib.hid hr; have Hl := Lib.hid hl
  clear hr hl
  go_enter Try.func42, Try.ntmps42
  go_wp2_with fail
  go_loopw [7, 12] (fun o i wr => ∃ (k : Nat) (u : Value), u = o ∧ k ≤ n ∧ i = .int .i64 (k : Int) ∧ wr.ownsRow w.heap.size 3 1 u (findE (l.take k) h v).length (intVs (findE (l.take k) h v)) ∧ Below w.heap.size w wr) (fun _ i _ => n - (intOf i).toNat)
  case atStart => exact ⟨0, _, rfl, Nat.zero_le _, rfl, World.ownsRow_nil _ _ _ _, Below.refl _ _⟩
  case round =>
    obtain ⟨k, u, rfl, hk, rfl, hown, hb⟩ := hrel
    have hfl : (findE (l.take k) h v).length ≤ k := Nat.le_trans (find_le _ _ _) (by rw [List.length_take]; omega)
    by_cases hlt : k < n
    · obtain ⟨ad, ⟨p0, p1, p2⟩, rfl, hadB, hpq, hat⟩ := Hr.out.en (k := k) (by omega)
      have hat1 := hat.below hb (by rw [add_block]; omega)
      obtain ⟨hc0, hc1, hc2⟩ := hat1
      dsimp only at hc0 hc1 hc2
      have hsn := find_snoc l h v k _ hpq
      dsimp only at hsn
      have Hsn := Lib.hid hsn; have Hown := Lib.hid hown; have Hb := Lib.hid hb
      have hbs := hb.size
      generalize findE (l.take k) h v = F at hfl Hown Hsn
      have hlt' : (k : Int) < n := by omega
      clear hsn hown hb hat hpq
      by_cases h0 : p0 = h
      · by_cases h1 : p1 = v
        · have Hsn := Lib.hid (Hsn.out.trans (by rw [if_pos ⟨h0, h1⟩]))
          subst h0; subst h1
          go_wp2_with (at_builtin; refine wpList_append_lies _ rfl (.tmp 26) (.tmp 29) _ rfl w.heap.size 3 i0 _ 1 8 Try.underlying29 hi0 hz0 hz1 hz2 rfl (by omega) u F.length (intVs F) rfl ((Hown.out.alloc _).alloc _) ⟨wr.heap.size + 1, 0, none⟩ 1 1 [.int .i64 p2] rfl rfl (World.news_of_block (cs := #[.int .i64 p2]) (by have := heap_alloc_new (wr.alloc (.cells #[.int .i64 p0, .int .i64 p1, .int .i64 p2] 27)) (.cells #[.int .i64 p2] 3); simpa using this)) (by simp [Value.oneCell']) (by omega) (by simp only [maxLen]; omega) (by omega) (by simp <;> omega) (wr.heap.size + 2) (by simp) ?_; intro g cp w2 hown2 hgrow hat2 hlt2)
          have hb2 : Below w.heap.size w w2 := ((Hb.out.alloc hbs _).alloc (by simp; omega) _).grown hgrow (by simp; omega) (fun q hq => (Hown.out.lt q hq).1)
          go_roundw
          case rel =>
            refine ⟨k + 1, _, rfl, by omega, by go_num, ?_, hb2⟩
            rw [Hsn.out]
            simpa [intVs] using hown2
          case measure => simp [intOf]; omega
        · have Hsn := Lib.hid (Hsn.out.trans (by rw [if_neg (fun q => h1 q.2)]))
          subst h0
          have h1' : (p1 == v) = false := by simpa using h1
          go_wp2_with fail
          have hb2 : Below w.heap.size w _ := Hb.out.alloc hbs (.cells #[.int .i64 p0, .int .i64 p1, .int .i64 p2] 27)
          go_roundw
          case rel =>
            refine ⟨k + 1, u, rfl, by omega, by go_num, ?_, hb2⟩
            rw [Hsn.out, List.append_nil]
            exact Hown.out.alloc _
          case measure => simp [intOf]; omega
      · have Hsn := Lib.hid (Hsn.out.trans (by rw [if_neg (fun q => h0 q.1)]))
        have h0' : (p0 == h) = false := by simpa using h0
        go_wp2_with fail
        have hb2 : Below w.heap.size w _ := Hb.out.alloc hbs (.cells #[.int .i64 p0, .int .i64 p1, .int .i64 p2] 27)
        go_roundw
        case rel =>
          refine ⟨k + 1, u, rfl, by omega, by go_num, ?_, hb2⟩
          rw [Hsn.out, List.append_nil]
          exact Hown.out.alloc _
        case measure => simp [intOf]; omega
    · obtain rfl : k = n := by omega
      have hd : decide ((k : Int) < (k : Int)) = false := by simp
      have ht : l.take k = l := List.take_of_length_le (Nat.le_of_eq Hl.out)
      rw [ht] at hown
      clear ht hfl
      have Hown := Lib.hid hown
      clear hown
      go_wp2_with fail
      go_ret
      exact ⟨u, rfl, Hown.out, hb⟩
end Go.Proofs.Ytfjilngofdahgaa
