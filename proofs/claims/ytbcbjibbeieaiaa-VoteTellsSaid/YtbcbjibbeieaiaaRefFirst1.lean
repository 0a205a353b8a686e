/- chronicleref7: First, walked. -/
import Derived.Test.YtbcbjibbeieaiaaRefFrame
namespace Go.Proofs.Ytbcbjibbeieaiaa
open Go.RowKit
set_option maxHeartbeats 1000000
set_option maxRecDepth 100000
set_option linter.unusedVariables false

theorem refFirst_any (s : ByteArray) (w : World) (hs : s.size ≤ 1000000000) :
    Calls Try.prog 48 #[.string s] w fun e w' =>
      e = .returned (.tuple #[.string ⟨(firstL s.data.toList).1.toArray⟩, .int .i64 (firstL s.data.toList).2.1, .int .i64 (firstL s.data.toList).2.2]) ∧ Below w.heap.size w w' := by
  obtain ⟨n, hn⟩ : ∃ n, beVal (s.data.toList.take 4) = n := ⟨_, rfl⟩
  have hv := firstL_ref s.data.toList n hn
  have hsl := size_list s
  have Hn := Lib.hid hn
  clear hn
  by_cases h1 : s.size < 12
  · rw [if_pos (by omega)] at hv
    have Hv := Lib.hid hv; clear hv hsl
    go_enter Try.func48, Try.ntmps48
    go_wp2_with fail
    go_ret3
    rw [Hv.out]
    exact ⟨rfl, Below.refl _ _⟩
  rw [if_neg (by omega)] at hv
  have h1' : (12 : Int) ≤ (s.size : Int) := by omega
  have hval := fun w => refValue_any (s.extract 0 4) w (by simp; omega)
  rw [show (s.extract 0 4).data.toList = s.data.toList.take 4 from by rw [str_to], Hn.out] at hval
  have Hval := Lib.hid hval; clear hval h1
  by_cases h2 : 4000 < n
  · rw [if_pos h2] at hv
    have Hv := Lib.hid hv; clear hv hsl
    have h2' : (4000 : Int) < (n : Int) := by omega
    go_enter Try.func48, Try.ntmps48
    go_wp2_with fail
    refine (Hval.out _).mono ?_
    rintro e w1 ⟨rfl, hb1⟩
    go_wp2_with fail
    go_ret3
    rw [Hv.out]
    exact ⟨rfl, hb1⟩
  rw [if_neg h2] at hv
  have h2' : (n : Int) ≤ 4000 := by omega
  by_cases h3 : s.size < n + 12
  · rw [if_pos (by omega)] at hv
    have Hv := Lib.hid hv; clear hv hsl
    have h3' : (s.size : Int) < (n : Int) + 12 := by omega
    go_enter Try.func48, Try.ntmps48
    go_wp2_with fail
    refine (Hval.out _).mono ?_
    rintro e w1 ⟨rfl, hb1⟩
    go_wp2_with fail
    go_ret3
    rw [Hv.out]
    exact ⟨rfl, hb1⟩
  rw [if_neg (by omega)] at hv
  have h3' : (n : Int) + 12 ≤ (s.size : Int) := by omega
  obtain ⟨m, hm⟩ : ∃ m, beVal ((s.data.toList.drop (8 + n)).take 4) = m := ⟨_, rfl⟩
  rw [hm] at hv
  have hval2 := fun w => refValue_any (s.extract (8 + n) (12 + n)) w (by simp; omega)
  rw [show (s.extract (8 + n) (12 + n)).data.toList = (s.data.toList.drop (8 + n)).take 4 from by rw [str_cut, show 12 + n - (8 + n) = 4 from by omega], hm] at hval2
  have Hval2 := Lib.hid hval2
  have hs8 : (8 + (n : Int)).toNat = 8 + n := by omega
  have hs12 : (12 + (n : Int)).toNat = 12 + n := by omega
  clear hval2 hm h2 h3
  by_cases h4 : m = n
  · rw [if_neg (by simpa using h4)] at hv
    subst h4
    have h4' : ((m : Int) != (m : Int)) = false := by simp
    obtain ⟨x, hx⟩ : ∃ x, (s.data.toList.drop 8).take m = x := ⟨_, rfl⟩
    have hxl : x.length ≤ 4000 := by rw [← hx, List.length_take]; omega
    have hfr := fun w => refFrame_any (s.extract 8 (8 + m)) w (by simp; omega)
    rw [show (s.extract 8 (8 + m)).data.toList = x from by rw [str_cut, show 8 + m - 8 = m from by omega, ← hx], putL_ok' hxl] at hfr
    rw [hx] at hv
    have Hfr := Lib.hid hfr; have Hx := Lib.hid hx
    clear hfr hx hsl
    by_cases h5 : frameL x = s.data.toList.take (m + 12)
    · rw [if_neg (by simpa using h5)] at hv
      have Hv := Lib.hid hv; have H5 := Lib.hid h5
      clear hv h5
      obtain ⟨F, hF⟩ : ∃ F, frameL x = F := ⟨_, rfl⟩
      rw [hF] at Hfr H5
      clear hF
      have hne : (!F == (s.extract 0 (m + 12)).toList) = false := by rw [ByteArray.toList_eq, str_to, H5.out]; simp
      go_enter Try.func48, Try.ntmps48
      go_wp2_with fail
      refine (Hval.out _).mono ?_
      rintro e w1 ⟨rfl, hb1⟩
      go_wp2_with fail
      refine (Hval2.out _).mono ?_
      rintro e w2 ⟨rfl, hb2⟩
      go_wp2_with fail
      refine (Hfr.out _).mono ?_
      rintro e w3 ⟨rfl, hb3⟩
      go_wp2_with fail
      go_ret3
      rw [Hv.out]
      have hxs : s.extract 8 (8 + m) = ⟨x.toArray⟩ := by rw [str_cut, show 8 + m - 8 = m from by omega, Hx.out]
      have h12 := hb1.trans (hb2.mono hb1.size)
      exact ⟨by rw [hxs]; simp, h12.trans (hb3.mono h12.size)⟩
    · rw [if_pos h5] at hv
      have Hv := Lib.hid hv; have H5 := Lib.hid h5
      clear hv h5
      obtain ⟨F, hF⟩ : ∃ F, frameL x = F := ⟨_, rfl⟩
      rw [hF] at Hfr H5
      clear hF
      have hne : (!F == (s.extract 0 (m + 12)).toList) = true := by rw [ByteArray.toList_eq, str_to]; simpa using H5.out
      go_enter Try.func48, Try.ntmps48
      go_wp2_with fail
      refine (Hval.out _).mono ?_
      rintro e w1 ⟨rfl, hb1⟩
      go_wp2_with fail
      refine (Hval2.out _).mono ?_
      rintro e w2 ⟨rfl, hb2⟩
      go_wp2_with fail
      refine (Hfr.out _).mono ?_
      rintro e w3 ⟨rfl, hb3⟩
      go_wp2_with fail
      go_ret3
      rw [Hv.out]
      have h12 := hb1.trans (hb2.mono hb1.size)
      exact ⟨rfl, h12.trans (hb3.mono h12.size)⟩
  · rw [if_pos h4] at hv
    have h4' : ((m : Int) != (n : Int)) = true := by rw [bne_iff_ne]; omega
    have Hv := Lib.hid hv; clear hv hsl h4
    go_enter Try.func48, Try.ntmps48
    go_wp2_with fail
    refine (Hval.out _).mono ?_
    rintro e w1 ⟨rfl, hb1⟩
    go_wp2_with fail
    refine (Hval2.out _).mono ?_
    rintro e w2 ⟨rfl, hb2⟩
    go_wp2_with fail
    go_ret3
    rw [Hv.out]
    exact ⟨rfl, hb1.trans (hb2.mono hb1.size)⟩

end Go.Proofs.Ytbcbjibbeieaiaa
