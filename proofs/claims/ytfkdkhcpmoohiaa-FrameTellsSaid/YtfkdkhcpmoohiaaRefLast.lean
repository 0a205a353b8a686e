/- chronicleref7: Last, walked. -/
import Derived.Test.YtfkdkhcpmoohiaaRefFirst
namespace Go.Proofs.Ytfkdkhcpmoohiaa
open Go.RowKit
set_option maxHeartbeats 1000000
set_option maxRecDepth 100000
set_option linter.unusedVariables false

theorem refLast_any (s : ByteArray) (w : World) (hs : s.size ≤ 1000000000) :
    Calls Try.prog 17 #[.string s] w fun e w' =>
      e = .returned (.tuple #[.string ⟨(lastL s.data.toList).1.toArray⟩, .int .i64 (lastL s.data.toList).2.1, .int .i64 (lastL s.data.toList).2.2]) ∧ Below w.heap.size w w' := by
  obtain ⟨n, hn⟩ : ∃ n, beVal (backL s.data.toList) = n := ⟨_, rfl⟩
  have hv := lastL_ref s.data.toList n hn
  have hsl := size_list s
  have Hn := Lib.hid hn
  clear hn
  by_cases h1 : s.size < 12
  · rw [if_pos (by omega)] at hv
    have Hv := Lib.hid hv; clear hv hsl
    go_enter Try.func17, Try.ntmps17
    go_wp2_with fail
    go_ret3
    rw [Hv.out]
    exact ⟨rfl, Below.refl _ _⟩
  rw [if_neg (by omega)] at hv
  have h1' : (12 : Int) ≤ (s.size : Int) := by omega
  have hval := fun w => refValue_any (s.extract (s.size - 4) s.size) w (by simp; omega)
  rw [show (s.extract (s.size - 4) s.size).data.toList = backL s.data.toList from by rw [str_from]; unfold backL; rw [hsl], Hn.out] at hval
  have Hval := Lib.hid hval; clear hval h1
  by_cases h2 : 4000 < n
  · rw [if_pos h2] at hv
    have Hv := Lib.hid hv; clear hv hsl
    have h2' : (4000 : Int) < (n : Int) := by omega
    go_enter Try.func17, Try.ntmps17
    go_wp2_with fail
    refine (Hval.out _).mono ?_
    rintro e w1 ⟨rfl, hb1⟩
    go_wp2_with fail
    go_ret3
    rw [Hv.out]
    exact ⟨rfl, hb1⟩
  rw [if_neg h2] at hv
  have h2' : (n : Int) ≤ 4000 := by omega
  by_cases h3 : s.size < n + 12
  · rw [if_pos (by omega)] at hv
    have Hv := Lib.hid hv; clear hv hsl
    have h3' : (s.size : Int) < (n : Int) + 12 := by omega
    go_enter Try.func17, Try.ntmps17
    go_wp2_with fail
    refine (Hval.out _).mono ?_
    rintro e w1 ⟨rfl, hb1⟩
    go_wp2_with fail
    go_ret3
    rw [Hv.out]
    exact ⟨rfl, hb1⟩
  rw [if_neg (by omega)] at hv
  have h3' : (n : Int) + 12 ≤ (s.size : Int) := by omega
  obtain ⟨c, hc⟩ : ∃ c, s.data.toList.drop (s.data.toList.length - n - 12) = c := ⟨_, rfl⟩
  rw [hc] at hv
  have hcl : c.length = n + 12 := by rw [← hc, List.length_drop]; omega
  have hsc : s.extract (s.size - n - 12) s.size = ⟨c.toArray⟩ := by rw [str_from, ← hc, hsl]
  obtain ⟨m, hm⟩ : ∃ m, beVal (c.take 4) = m := ⟨_, rfl⟩
  rw [hm] at hv
  have hval2 := fun w => refValue_any ((⟨c.toArray⟩ : ByteArray).extract 0 4) w (by simp; omega)
  rw [show ((⟨c.toArray⟩ : ByteArray).extract 0 4).data.toList = c.take 4 from by rw [str_to], hm] at hval2
  have hfst := fun w => refFirst_any (⟨c.toArray⟩ : ByteArray) w (by rw [size_mk]; omega)
  rw [show (⟨c.toArray⟩ : ByteArray).data.toList = c from by simp] at hfst
  have Hval2 := Lib.hid hval2; have Hfst := Lib.hid hfst; have Hsc := Lib.hid hsc
  have hc4 : (4 : Int) ≤ (c.length : Int) := by omega
  clear hval2 hfst hsc hm h2 h3 hc hcl hsl
  by_cases h4 : m = n
  · rw [if_neg (by simpa using h4)] at hv
    subst h4
    have h4' : ((m : Int) != (m : Int)) = false := by simp
    have Hv := Lib.hid hv; clear hv
    go_enter Try.func17, Try.ntmps17
    go_wp2_with fail
    refine (Hval.out _).mono ?_
    rintro e w1 ⟨rfl, hb1⟩
    go_wp2_with fail
    rw [Hsc.out]
    refine (Hval2.out _).mono ?_
    rintro e w2 ⟨rfl, hb2⟩
    go_wp2_with fail
    refine (Hfst.out _).mono ?_
    rintro e w3 ⟨rfl, hb3⟩
    go_wp2_with fail
    go_ret3
    rw [Hv.out]
    have h12 := hb1.trans (hb2.mono hb1.size)
    exact ⟨rfl, h12.trans (hb3.mono h12.size)⟩
  · rw [if_pos h4] at hv
    have h4' : ((m : Int) != (n : Int)) = true := by rw [bne_iff_ne]; omega
    have Hv := Lib.hid hv; clear hv h4
    go_enter Try.func17, Try.ntmps17
    go_wp2_with fail
    refine (Hval.out _).mono ?_
    rintro e w1 ⟨rfl, hb1⟩
    go_wp2_with fail
    rw [Hsc.out]
    refine (Hval2.out _).mono ?_
    rintro e w2 ⟨rfl, hb2⟩
    go_wp2_with fail
    go_ret3
    rw [Hv.out]
    exact ⟨rfl, hb1.trans (hb2.mono hb1.size)⟩
end Go.Proofs.Ytfkdkhcpmoohiaa
