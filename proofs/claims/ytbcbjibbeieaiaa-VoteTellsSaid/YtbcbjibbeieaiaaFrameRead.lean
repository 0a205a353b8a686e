/- package frame: read, First, Last, walked. -/
import Derived.Test.YtbcbjibbeieaiaaFrameOpen
namespace Go.Proofs.Ytbcbjibbeieaiaa
open Go.RowKit
set_option maxHeartbeats 400000
set_option linter.unusedVariables false

theorem firstL_eq (b h : List UInt8) (n : Nat) (hh : b.take 4 = h) (hn : beVal h = n) : firstL b = if b.length < 12 then ([], 0, 5) else if 4000 < n then ([], 0, 6) else if b.length < n + 12 then ([], 0, 5) else
    if backL (b.take (n + 12)) ≠ h then ([], 0, 6) else if (fOpen (b.take (n + 12))).2 ≠ 0 then ([], 0, (fOpen (b.take (n + 12))).2) else ((fOpen (b.take (n + 12))).1, n + 12, 0) := by
  subst hh hn
  unfold firstL backL
  by_cases h1 : b.length < 12
  · rw [if_pos h1, if_pos h1]
  rw [if_neg h1, if_neg h1]
  by_cases h2 : 4000 < beVal (b.take 4)
  · rw [if_pos h2, if_pos h2]
  rw [if_neg h2, if_neg h2]
  by_cases h3 : b.length < beVal (b.take 4) + 12
  · rw [if_pos h3, if_pos h3]
  rw [if_neg h3, if_neg h3, show (b.take (beVal (b.take 4) + 12)).length - 4 = beVal (b.take 4) + 8 from by rw [List.length_take]; omega]
theorem lastL_eq (b h : List UInt8) (n : Nat) (hh : backL b = h) (hn : beVal h = n) : lastL b = if b.length < 12 then ([], 0, 5) else if 4000 < n then ([], 0, 6) else if b.length < n + 12 then ([], 0, 5) else
    if (b.drop (b.length - (n + 12))).take 4 ≠ h then ([], 0, 6) else if (fOpen (b.drop (b.length - (n + 12)))).2 ≠ 0 then ([], 0, (fOpen (b.drop (b.length - (n + 12)))).2) else ((fOpen (b.drop (b.length - (n + 12)))).1, n + 12, 0) := by
  subst hh hn; rfl

theorem readFront_any (s : ByteArray) (w : World) (hs : s.size ≤ 1000000000) :
    Calls Try.prog 52 #[.string s, .func (.func 53) #[] #[], .func (.func 54) #[] #[], .func (.func 55) #[] #[]] w fun e w' =>
      e = .returned (.tuple #[.string ⟨(firstL s.data.toList).1.toArray⟩, .int .i64 (firstL s.data.toList).2.1, .int .i64 (firstL s.data.toList).2.2]) ∧ Below w.heap.size w w' := by
  obtain ⟨H, hH⟩ : ∃ H, s.data.toList.take 4 = H := ⟨_, rfl⟩
  obtain ⟨n, hn⟩ : ∃ n, beVal H = n := ⟨_, rfl⟩
  have hv := firstL_eq s.data.toList H n hH hn
  rw [← size_list] at hv
  by_cases h12 : s.size < 12
  · rw [if_pos h12] at hv
    rw [hv]
    clear hv hn hH
    go_enter Try.func52, Try.ntmps52
    go_wp2_with fail
    go_ret3
    exact ⟨rfl, Below.refl _ _⟩
  · rw [if_neg h12] at hv
    have h12' : 12 ≤ s.size := by omega
    have hHl : H.length = 4 := by rw [← hH]; rw [List.length_take, ← size_list]; omega
    have hnl : n < 4294967296 := by have := beVal_lt H; rw [hHl, hn] at this; omega
    obtain ⟨F, hF⟩ : ∃ F, s.data.toList.take (n + 12) = F := ⟨_, rfl⟩
    rw [hF] at hv
    have hb1 := front_any s w (by omega)
    rw [hH] at hb1
    have HF := Lib.hid hF; have Hn := Lib.hid hn; have Hv := Lib.hid hv; have Hb1 := Lib.hid hb1; have HH := Lib.hid hHl; have Hhere := Lib.hid hH
    clear hF hn hv h12 hb1 hHl hH
    go_enter Try.func52, Try.ntmps52
    go_wp2_with fail
    refine Hb1.out.mono ?_
    rintro e w1 ⟨rfl, rfl⟩
    go_wp2_with fail
    refine (flength_any ⟨H.toArray⟩ _ (by rw [size_mk]; exact HH.out)).mono ?_
    rintro e w2 ⟨rfl, hb2⟩
    rw [show beVal (ByteArray.mk H.toArray).data.toList = n from Hn.out]
    by_cases h1 : n ≤ 4000
    · rw [if_neg (show ¬ 4000 < n by omega)] at Hv
      rw [show decide (n ≤ 4000) = true from by simpa using h1]
      by_cases h2 : n + 12 ≤ s.size
      · rw [if_neg (show ¬ s.size < n + 12 by omega)] at Hv
        have h2' : (n : Int) + 12 ≤ (s.size : Int) := by omega
        have hFl : F.length = n + 12 := by rw [← HF.out]; rw [List.length_take, ← size_list]; omega
        go_wp2_with fail
        refine (head_any s (n + 12) ((n : Int) + 12) _ (by omega) hs rfl).mono ?_
        rintro e w3 ⟨rfl, rfl⟩
        rw [HF.out]
        have HFl := Lib.hid hFl; clear hFl
        go_wp2_with fail
        refine (back_any ⟨F.toArray⟩ _ (by rw [size_mk, HFl.out]; omega) (by rw [size_mk, HFl.out]; omega)).mono ?_
        rintro e w3 ⟨rfl, rfl⟩
        go_wp2_with fail
        refine (front_any s _ (by omega)).mono ?_
        rintro e w3 ⟨rfl, rfl⟩
        rw [Hhere.out]
        obtain ⟨Tt, hT⟩ : ∃ Tt, backL F = Tt := ⟨_, rfl⟩
        rw [hT] at Hv
        rw [show backL (ByteArray.mk F.toArray).data.toList = Tt from hT]
        clear hT
        by_cases h3 : Tt = H
        · rw [if_neg (show ¬ Tt ≠ H from fun h => h h3)] at Hv
          subst h3
          have hd3 : (Tt == Tt) = true := by simp
          go_wp2_with fail
          refine (fopen_any ⟨F.toArray⟩ _ (by rw [size_mk, HFl.out]; omega) (by rw [size_mk, HFl.out]; omega)).mono ?_
          rintro e w4 ⟨rfl, hb4⟩
          rw [show (ByteArray.mk F.toArray).data.toList = F from rfl]
          obtain ⟨o, ho⟩ : ∃ o, fOpen F = o := ⟨_, rfl⟩
          rw [ho] at Hv ⊢
          clear ho
          by_cases h5 : o.2 = 0
          · rw [if_neg (show ¬ o.2 ≠ 0 from fun h => h h5)] at Hv
            have hd5 : (o.2 != 0) = false := by rw [h5]; rfl
            clear h5
            go_wp2_with fail
            go_ret3
            rw [Hv.out]
            exact ⟨rfl, hb2.trans (hb4.mono hb2.size)⟩
          · rw [if_pos h5] at Hv
            have hd5 : (o.2 != 0) = true := by rw [bne_iff_ne]; exact h5
            clear h5
            go_wp2_with fail
            go_ret3
            rw [Hv.out]
            exact ⟨rfl, hb2.trans (hb4.mono hb2.size)⟩
        · rw [if_pos h3] at Hv
          have hd3 : (Tt == H) = false := by simpa using h3
          clear h3
          go_wp2_with fail
          go_ret3
          rw [Hv.out]
          exact ⟨rfl, hb2⟩
      · rw [if_pos (show s.size < n + 12 by omega)] at Hv
        have h2' : (s.size : Int) < (n : Int) + 12 := by omega
        go_wp2_with fail
        go_ret3
        rw [Hv.out]
        exact ⟨rfl, hb2⟩
    · rw [if_pos (show 4000 < n by omega)] at Hv
      rw [show decide (n ≤ 4000) = false from by simpa using h1]
      go_wp2_with fail
      go_ret3
      rw [Hv.out]
      exact ⟨rfl, hb2⟩

theorem first_any (s : ByteArray) (w : World) (hs : s.size ≤ 1000000000) :
    Calls Try.prog 42 #[.string s] w fun e w' => e = .returned (.tuple #[.string ⟨(firstL s.data.toList).1.toArray⟩, .int .i64 (firstL s.data.toList).2.1, .int .i64 (firstL s.data.toList).2.2]) ∧ Below w.heap.size w w' := by
  go_enter Try.func42, Try.ntmps42
  go_wp2_with fail
  refine (readFront_any s _ hs).mono ?_
  rintro e w1 ⟨rfl, hb1⟩
  go_wp2_with fail
  go_ret3
  exact ⟨rfl, hb1⟩
end Go.Proofs.Ytbcbjibbeieaiaa
