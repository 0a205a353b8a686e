/- The statements' helpers: how long texts are, lists lent with a mark, lists held against each other. -/
import Derived.Test.YtadhboioaacaeaaGreatRows
import Derived.Test.YtadhboioaacaeaaGreatJWireTells1
import Derived.RegionTactic
import Derived.Deep.QuietTactic
import Derived.BigQuiet

namespace Go.Proofs.YtadhboioaacaeaaGreat
open Go.RowKit
set_option maxHeartbeats 400000
set_option linter.unusedVariables false

/-- how much room is left behind one part -/
def room1 (left size : Int) : Int := if left < 0 ∨ left < size then -1 else left - size

theorem room_any (left size : Int) (g B : Nat) (w : World) (hc : w.cell? ⟨g, 0, none⟩ = some (.int .i64 size)) (hl : -9223372036854775808 ≤ left ∧ left ≤ 9223372036854775807) (hs : 0 ≤ size ∧ size ≤ 9223372036854775807) :
    Calls Tryz.prog 16 #[.int .i64 left, .slice (some ⟨g, 0, none⟩) 1 1] w fun e w' => e = .returned (.int .i64 (room1 left size)) ∧ w = w' := by
  obtain ⟨hl1, hl2⟩ := hl
  obtain ⟨hs1, hs2⟩ := hs
  have hv : room1 left size = if left < 0 ∨ left < size then -1 else left - size := rfl
  by_cases h1 : left < 0
  · have hd1 : decide (left < 0) = true := by simpa using h1
    rw [if_pos (.inl h1)] at hv
    have Hv := Lib.hid hv; clear hv
    go_enter Tryz.func16, Tryz.ntmps16
    go_wp2
    refine wp_loop_rounds 1 ?_
    rw [rounds_succ]
    go_wp2
    go_ret
    rw [Hv.out]
    exact ⟨rfl, rfl⟩
  · by_cases h2 : left < size
    · rw [if_pos (.inr h2)] at hv
      have Hv := Lib.hid hv; clear hv
      have h1' : 0 ≤ left := by omega
      go_enter Tryz.func16, Tryz.ntmps16
      go_wp2
      refine wp_loop_rounds 1 ?_
      rw [rounds_succ]
      go_wp2
      go_ret
      rw [Hv.out]
      exact ⟨rfl, rfl⟩
    · rw [if_neg (by omega)] at hv
      have Hv := Lib.hid hv; clear hv
      have h1' : 0 ≤ left := by omega
      have h2' : size ≤ left := by omega
      go_enter Tryz.func16, Tryz.ntmps16
      go_wp2
      refine wp_loop_rounds 2 ?_
      rw [rounds_succ]
      go_wp2
      rw [rounds_succ]
      go_wp2
      go_ret
      rw [Hv.out]
      exact ⟨rfl, rfl⟩

theorem sameTexts_any (B C n m cn cm : Nat) (A D : Option Addr) (ss ts : List ByteArray) (w : World) (ha : SlR w B 1 A n (strVs ss)) (hb : SlR w C 1 D m (strVs ts))
    (hn : n ≤ 9223372036854775807) (hm : m ≤ 9223372036854775807) :
    Calls Tryz.prog 45 #[.slice A n cn, .slice D m cm] w fun e w' => e = .returned (.bool (decide (ss = ts))) ∧ ∃ k, w' = w.drewN k := by
  have hl : ss.length = n := by have := ha.len; simpa [strVs] using this
  have hl2 : ts.length = m := by have := hb.len; simpa [strVs] using this
  have Ha := Lib.hid ha; clear ha
  have Hb := Lib.hid hb; clear hb
  by_cases hne : n = m
  · subst hne
    have hnn : ((n : Int) != (n : Int)) = false := by simp
    have Hl := Lib.hid hl; have Hl2 := Lib.hid hl2; clear hl hl2
    go_enter Tryz.func45, Tryz.ntmps45
    go_wp2
    go_loopw [5] (fun i wr => ∃ k : Nat, k ≤ n ∧ i = .int .i64 k ∧ ss.take k = ts.take k ∧ ∃ q, wr = w.drewN q) (fun i _ => n - (intOf i).toNat)
    case atStart => exact ⟨0, Nat.zero_le _, rfl, rfl, 0, rfl⟩
    case round =>
      obtain ⟨k, hk, rfl, hst, q, rfl⟩ := hrel
      have Hst := Lib.hid hst; clear hst
      by_cases hlt : k < n
      · obtain ⟨ad, u, hA, _, hu, hcell⟩ := Ha.out.get hlt
        obtain ⟨ad2, u2, hA2, _, hu2, hcell2⟩ := Hb.out.get hlt
        subst hA hA2
        obtain ⟨s, hs, rfl⟩ := strVs_get hu
        obtain ⟨t, ht, rfl⟩ := strVs_get hu2
        have Hs := Lib.hid hs; have Ht := Lib.hid ht
        clear hs ht hu hu2
        have hlt1 : (k : Int) < (n : Int) := by omega
        have hk0 : 0 ≤ (k : Int) := by omega
        go_wp2
        go_quiet (fail)
        go_wp2
        · have hst : (!s.toList == t.toList) = true := by assumption
          rw [ByteArray.toList_eq, ByteArray.toList_eq] at hst
          go_ret
          refine ⟨?_, q + nq, World.drewN_drewN _ _ _⟩
          have : decide (ss = ts) = false := by
            rw [decide_eq_false_iff_not]
            rintro rfl
            have h1 := Hs.out
            rw [Ht.out] at h1
            injection h1 with h1
            subst h1
            simp at hst
          rw [this]
          rfl
        · have hst : (!s.toList == t.toList) = false := by assumption
          rw [ByteArray.toList_eq, ByteArray.toList_eq] at hst
          have hst' : s = t := str_ext (by simpa using hst)
          go_roundw
          case rel => exact ⟨k + 1, by omega, by go_num, by rw [List.take_add_one, List.take_add_one, Hst.out, Hs.out, Ht.out, hst'], _, rfl⟩
          case measure => simp [intOf]; omega
      · obtain rfl : k = n := by omega
        have hst : decide (ss = ts) = true := by
          rw [decide_eq_true_iff]
          have := Hst.out
          rw [List.take_of_length_le (by rw [Hl.out]; omega), List.take_of_length_le (by rw [Hl2.out]; omega)] at this
          exact this
        have Hd := Lib.hid hst; clear hst
        go_wp2
        go_ret
        rw [Hd.out]
        exact ⟨rfl, q, rfl⟩
  · have hnn : ((n : Int) != (m : Int)) = true := by rw [bne_iff_ne]; omega
    have hv : decide (ss = ts) = false := by
      rw [decide_eq_false_iff_not]; intro e; apply hne; rw [← hl, ← hl2, e]
    rw [hv]
    clear hl hl2 hv
    go_enter Tryz.func45, Tryz.ntmps45
    go_wp2
    go_ret
    exact ⟨rfl, 0, rfl⟩

/-- how many bytes texts have together -/
def bytesOf (ss : List ByteArray) : Nat := (ss.map (·.size)).sum
theorem bytesOf_take (ss : List ByteArray) (k : Nat) (s : ByteArray) (h : ss[k]? = some s) : bytesOf (ss.take (k + 1)) = bytesOf (ss.take k) + s.size := by
  unfold bytesOf
  rw [List.take_add_one, h, List.map_append, List.sum_append]; simp
theorem bytesOf_mono (ss : List ByteArray) (k : Nat) : bytesOf (ss.take k) ≤ bytesOf ss := by
  unfold bytesOf
  conv => rhs; rw [← List.take_append_drop k ss, List.map_append, List.sum_append]
  omega
theorem size_le_bytesOf (ss : List ByteArray) (s : ByteArray) (h : s ∈ ss) : s.size ≤ bytesOf ss := by
  induction ss with
  | nil => cases h
  | cons t ss ih =>
    simp only [bytesOf, List.map_cons, List.sum_cons] at ih ⊢
    rcases List.mem_cons.1 h with rfl | h
    · omega
    · have := ih h; omega
/-- are texts few, and short together? -/
def shortB (few room : Nat) (ss : List ByteArray) : Bool := decide (ss.length ≤ few ∧ bytesOf ss ≤ room)

theorem short_any (few room n cap B : Nat) (A : Option Addr) (ss : List ByteArray) (w : World) (hr : SlR w B 1 A n (strVs ss)) (hB : B ≤ w.heap.size)
    (hn : n ≤ 9223372036854775807) (hs : ∀ s ∈ ss, s.size ≤ 9223372036854775807) (hf : few ≤ 1000000) (hro : room ≤ 1000000000) :
    Calls Tryz.prog 4 #[.int .i64 few, .int .i64 room, .slice A n cap] w fun e w' => e = .returned (.bool (shortB few room ss)) ∧ Below w.heap.size w w' := by
  have hl : ss.length = n := by have := hr.len; simpa [strVs] using this
  by_cases hfew : n ≤ few
  · have Hr := Lib.hid hr; clear hr
    have Hl := Lib.hid hl; clear hl
    have hd1 : decide (few < n) = false := by simp; omega
    go_enter Tryz.func4, Tryz.ntmps4
    go_wp2_with fail
    go_loopw [1, 7] (fun r i wr => ∃ (k : Nat) (left : Int), k ≤ n ∧ i = .int .i64 k ∧ r = .int .i64 left ∧ (left = (room : Int) - (bytesOf (ss.take k) : Int) ∧ 0 ≤ left ∨ left = -1 ∧ room < bytesOf (ss.take k)) ∧ Below w.heap.size w wr) (fun _ i _ => n - (intOf i).toNat)
    case atStart => exact ⟨0, room, Nat.zero_le _, rfl, rfl, .inl ⟨by simp [bytesOf], by omega⟩, Below.refl _ _⟩
    case round =>
      obtain ⟨k, left, hk, rfl, rfl, hleft, hb⟩ := hrel
      by_cases hlt : k < n
      · by_cases hneg : 0 ≤ left
        · obtain ⟨ad, u, hA, had, hu, hcell⟩ := (Hr.out.below (hb.mono hB)).get hlt
          subst hA
          obtain ⟨s, hs1, rfl⟩ := strVs_get hu
          have hsz := hs s (List.mem_of_getElem? hs1)
          have Hs := Lib.hid hs1; have Hleft := Lib.hid hleft
          have hleft2 : left ≤ 1000000000 := by rcases hleft with ⟨h, _⟩ | ⟨h, _⟩ <;> omega
          clear hs1 hu hleft had hs
          go_wp2_with fail
          refine (room_any left s.size wr.heap.size 0 _ (by simp) ⟨by omega, by omega⟩ ⟨by omega, by omega⟩).mono ?_
          rintro e w1 ⟨rfl, rfl⟩
          have hstep := bytesOf_take ss k s Hs.out
          have hr1 : room1 left s.size = (room : Int) - (bytesOf (ss.take (k + 1)) : Int) ∧ 0 ≤ room1 left s.size ∨ room1 left s.size = -1 ∧ room < bytesOf (ss.take (k + 1)) := by
            unfold room1
            rcases Hleft.out with ⟨h1, h2⟩ | ⟨h1, h2⟩
            · by_cases h3 : left < (s.size : Int)
              · rw [if_pos (.inr h3)]; right; omega
              · rw [if_neg (by omega)]; left; omega
            · omega
          clear hstep
          have Hr1 := Lib.hid hr1; clear hr1
          go_wp2_with fail
          go_roundw
          case rel => exact ⟨k + 1, _, by omega, by go_num, rfl, Hr1.out, hb.alloc hb.size _⟩
          case measure => simp [intOf]; omega
        · have hneg' : left < 0 := by omega
          have hbig := bytesOf_mono ss k
          have hv : shortB few room ss = false := by unfold shortB; rw [decide_eq_false_iff_not]; rintro ⟨_, h⟩; rcases hleft with ⟨_, h1⟩ | ⟨_, h1⟩ <;> omega
          have Hv := Lib.hid hv
          clear hv hleft hbig
          go_wp2_with fail
          go_ret
          rw [Hv.out]
          exact ⟨rfl, hb⟩
      · obtain rfl : k = n := by omega
        have hall : bytesOf (ss.take k) = bytesOf ss := by rw [List.take_of_length_le (by rw [Hl.out]; omega)]
        have hlen := Hl.out
        rw [hall] at hleft
        have hv : shortB few room ss = decide (0 ≤ left) := by
          unfold shortB
          rw [decide_eq_decide]
          omega
        have Hv := Lib.hid hv
        clear hv hleft hall hlen
        go_wp2_with fail
        go_ret
        rw [Hv.out]
        exact ⟨rfl, hb⟩
  · have hv : shortB few room ss = false := by unfold shortB; rw [decide_eq_false_iff_not]; rintro ⟨h, _⟩; omega
    have hfew' : few < n := by omega
    rw [hv]
    clear hr hl hv
    go_enter Tryz.func4, Tryz.ntmps4
    go_wp2_with fail
    go_ret
    exact ⟨rfl, Below.refl _ _⟩
/-- texts one behind the other -/
def joinL (ss : List ByteArray) : List UInt8 := (ss.map (·.data.toList)).flatten
theorem joinL_length (ss : List ByteArray) : (joinL ss).length = bytesOf ss := by
  induction ss with
  | nil => rfl
  | cons s ss ih => simp only [joinL, bytesOf, List.map_cons, List.flatten_cons, List.length_append, List.sum_cons] at ih ⊢; rw [ih, ← size_list]
theorem joinL_take (ss : List ByteArray) (k : Nat) (s : ByteArray) (h : ss[k]? = some s) : joinL (ss.take (k + 1)) = joinL (ss.take k) ++ s.data.toList := by
  unfold joinL; rw [List.take_add_one, h, List.map_append, List.flatten_append]; simp
end Go.Proofs.YtadhboioaacaeaaGreat
