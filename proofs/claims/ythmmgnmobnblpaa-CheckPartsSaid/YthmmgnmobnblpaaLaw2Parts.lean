/- chapter 2: CheckParts, walked. -/
import Derived.Test.YthmmgnmobnblpaaLaw2
namespace Go.Proofs.Ythmmgnmobnblpaa
open Go.RowKit
set_option maxHeartbeats 400000
set_option linter.unusedVariables false

theorem take_mid {a b : Nat} (l : List UInt8) (h : a ≤ b) : l.take b = l.take a ++ (l.take b).drop a := by
  conv => lhs; rw [← List.take_append_drop a (l.take b)]
  rw [List.take_take, Nat.min_eq_left h]
/-- a cut's place -/
def cutAt (z at_ len : Int) : Int := min (max z at_) len

theorem info_str : (Try.prog.info? 9).map (fun i => (i.zero, i.size, i.bytes)) = some (some (.string ByteArray.empty), 1, 16) := by kernel_rfl

theorem checkParts_any (s : ByteArray) (A : Option Addr) (n cap : Nat) (zs : List Int) (w : World) (hs : s.size ≤ 9223372036854775807)
    (hz : zs.length = n) (hr : SlR w w.heap.size 1 A n (zs.map (Value.int .i64))) (hm : n ≤ 9223372036854775807) :
    Calls Try.prog 5 #[.string s, .slice A n cap] w fun e w' => e = .returned (.bool true) ∧ Below w.heap.size w w' := by
  obtain ⟨i0, hi0, hz0, hz1, hz2⟩ := info_parts info_str
  by_cases hc : s.size ≤ 3000 ∧ n ≤ 40
  · obtain ⟨h1, h2⟩ := hc
    go_enter Try.func5, Try.ntmps5
    go_wp2_with fail
    go_loopw [5, 6, 7] (fun l a i wr => ∃ (k at_ : Nat) (ss : List ByteArray) (lv : Value), lv = l ∧ k ≤ n ∧ i = .int .i64 k ∧ a = .int .i64 at_ ∧ at_ ≤ s.size ∧ ss.length = k ∧ (∀ t ∈ ss, t.size ≤ 3000) ∧
        (ss.map (·.data.toList)).flatten = s.data.toList.take at_ ∧ wr.ownsRow w.heap.size 9 1 lv k (strVs ss) ∧ Below w.heap.size w wr) (fun _ _ i _ => n - (intOf i).toNat)
    case atStart => exact ⟨0, 0, [], _, rfl, Nat.zero_le _, rfl, rfl, Nat.zero_le _, rfl, by simp, by simp, World.ownsRow_nil _ _ _ _, Below.refl _ _⟩
    case round =>
      obtain ⟨k, at_, ss, lv, rfl, hk, rfl, rfl, hat, hsl, hsz, hfl, hown, hb⟩ := hrel
      by_cases hlt : k < n
      · obtain ⟨ad, u, hA, _, hu, hcell⟩ := (hr.below hb).get hlt
        subst hA
        simp only [List.getElem?_map, Option.map_eq_some_iff] at hu
        obtain ⟨z, hzk, rfl⟩ := hu
        have Hfl := Lib.hid hfl; clear hfl
        have Hsl := Lib.hid hsl; clear hsl
        have Hown := Lib.hid hown; clear hown
        clear hr hz hzk
        obtain ⟨to_, hto, hto1, hto2⟩ : ∃ t : Nat, min (max z (at_ : Int)) (s.size : Int) = (t : Int) ∧ at_ ≤ t ∧ t ≤ s.size := ⟨(min (max z (at_ : Int)) (s.size : Int)).toNat, by omega, by omega, by omega⟩
        go_wp2_with (at_builtin; refine wpList_append_lies _ rfl (.tmp 33) (.tmp 38) _ rfl w.heap.size 9 i0 _ 1 16 Try.underlying22 hi0 hz0 hz1 hz2 rfl (by omega) lv k (strVs ss) rfl (Hown.out.alloc _) ⟨wr.heap.size, 0, none⟩ 1 1 [.string (s.extract at_ to_)] rfl rfl (World.news_of_block (cs := #[.string (s.extract at_ to_)]) (heap_alloc_new wr _)) (by simp [Value.oneCell']) (by omega) (by simp only [maxLen]; omega) (by omega) (by have := hb.size; simp <;> omega) (wr.heap.size + 1) (by simp) ?_; intro g cp w1 hown1 hgrow hat1 hlt1)
        have hb1 : Below w.heap.size w w1 := (hb.alloc hb.size _).grown hgrow (by have := hb.size; simp <;> omega) (fun q hq => (Hown.out.lt q hq).1)
        go_roundw
        case rel =>
          refine ⟨k + 1, to_, ss ++ [s.extract at_ to_], _, rfl, by omega, by go_num, rfl, hto2, by rw [List.length_append, Hsl.out]; rfl, ?_, ?_, by rw [strVs, List.map_append]; exact hown1, hb1⟩
          · intro t ht
            rcases List.mem_append.1 ht with ht | ht
            · exact hsz t ht
            · obtain rfl : t = s.extract at_ to_ := by simpa using ht
              rw [str_cut, size_mk, List.length_take, List.length_drop, ← size_list]; omega
          · rw [List.map_append, List.flatten_append, Hfl.out, str_cut]
            simp only [List.map_cons, List.map_nil, List.flatten_cons, List.flatten_nil, List.append_nil]
            rw [← List.drop_take, ← take_mid _ hto1]
        case measure => simp [intOf]; omega
      · obtain rfl : k = n := by omega
        have hov : (crc ((ss ++ [s.extract at_ s.size, ⟨#[]⟩]).map (·.data.toList)).flatten) = crc s.data.toList := by
          rw [List.map_append, List.flatten_append, hfl, str_from]
          simp
        have Hov := Lib.hid hov; clear hov
        have Hfl := Lib.hid hfl; clear hfl
        have Hsl := Lib.hid hsl; clear hsl
        have Hown := Lib.hid hown; clear hown
        clear hr hz
        go_wp2_with fail
        refine (alive_any _).mono ?_
        rintro e w1 ⟨rfl, hb1⟩
        have hown1 := own_below Hown.out hb1 (fun q hq => (Hown.out.lt q hq).2)
        have hbb := hb.trans (hb1.mono hb.size)
        have Hown1 := Lib.hid hown1; clear hown1
        go_wp2_with (at_builtin; refine wpList_append_guarded _ rfl (.tmp 43) (.tmp 47) _ rfl w.heap.size 9 i0 _ 1 16 Try.underlying22 hi0 hz0 hz1 hz2 rfl (by omega) lv k (strVs ss) rfl (Hown1.out.alloc _) ⟨w1.heap.size, 0, none⟩ 2 2 [.string (s.extract at_ s.size), .string ⟨#[]⟩] rfl rfl (World.news_of_block (cs := #[.string (s.extract at_ s.size), .string ⟨#[]⟩]) (heap_alloc_new w1 _)) (by simp [Value.oneCell']) (by omega) (by simp only [maxLen]; omega) (by omega) (by have := hbb.size; simp <;> omega) (w1.heap.size + 1) (by simp) ?_; intro g cp w2 hown2 hgrow hat1 hlt1)
        have hb2 : Below w.heap.size w w2 := (hbb.alloc hbb.size _).grown hgrow (by have := hbb.size; simp <;> omega) (fun q hq => (Hown1.out.lt q hq).1)
        have Hown2 := Lib.hid hown2; clear hown2
        refine (sum_any w2.heap.size (k + 2) cp _ (ss ++ [s.extract at_ s.size, ⟨#[]⟩]) _ (by rw [strVs, List.map_append]; exact SlR.own Hown2.out) (by omega) (by
          intro t ht
          rcases List.mem_append.1 ht with ht | ht
          · have := hsz t ht; omega
          · simp at ht
            rcases ht with rfl | rfl
            · simp <;> omega
            · decide)).mono ?_
        rintro e w3 ⟨rfl, rfl⟩
        rw [Hov.out]
        go_wp2_with fail
        refine (sum_any (w2.heap.size + 1) 1 1 _ [s] _ (by exact SlR.new _ _ rfl _ #[.string s] rfl) (by omega) (by simpa using hs)).mono ?_
        rintro e w3 ⟨rfl, rfl⟩
        rw [show (crc (List.map (fun x : ByteArray => x.data.toList) [s]).flatten) = crc s.data.toList from by simp]
        go_wp2_with fail
        refine (sum_any 0 0 0 _ [] _ (SlR.nil _ _ _ _) (by omega) (by simp)).mono ?_
        rintro e w3 ⟨rfl, rfl⟩
        go_wp2_with fail
        refine (sum_any (w2.heap.size + 2) 1 1 _ [⟨#[]⟩] _ (by exact SlR.new _ _ (by simp) _ #[.string ⟨#[]⟩] rfl) (by omega) (by intro t ht; simp at ht; subst ht; decide)).mono ?_
        rintro e w3 ⟨rfl, rfl⟩
        rw [show (crc (List.map (fun x : ByteArray => x.data.toList) [⟨#[]⟩]).flatten) = crc (List.map (fun x : ByteArray => x.data.toList) []).flatten from rfl]
        go_wp2_with fail
        go_ret
        exact ⟨rfl, (hb2.alloc hb2.size _).alloc (by have := hb2.size; simp <;> omega) _⟩
  · by_cases h1 : s.size ≤ 3000
    · have h2 : (40 : Int) < (n : Int) := by omega
      clear hr hz
      go_enter Try.func5, Try.ntmps5
      go_wp2_with (go_at_call 8; refine (alive_any _).mono ?_; rintro e w1 ⟨rfl, hb1⟩)
      go_ret
      exact ⟨rfl, hb1⟩
    · have h1' : (3000 : Int) < (s.size : Int) := by omega
      clear hr hz
      go_enter Try.func5, Try.ntmps5
      go_wp2_with (go_at_call 8; refine (alive_any _).mono ?_; rintro e w1 ⟨rfl, hb1⟩)
      go_ret
      exact ⟨rfl, hb1⟩
end Go.Proofs.Ythmmgnmobnblpaa
