/- chapter 7: bytes that were cut, or have more behind them, are no command. -/
import Derived.Test.YtnnnilpgnjndlaaCShipBytesEvGet2
import Derived.Test.YtnnnilpgnjndlaaCShipBytesEvPut2

namespace Go.Proofs.Ytnnnilpgnjndlaa
open Go.RowKit
set_option linter.unusedVariables false

theorem rdEvs_fits : ∀ (n : Nat) (bs : List UInt8) (x : Int), bs.length ≤ 1000000000 → ∀ e ∈ (rdEvs n bs x).1, e.fits
  | 0, bs, x, _ => by simp [rdEvs]
  | n + 1, bs, x, hl => by
    rw [rdEvs]
    split
    · intro e he
      rcases List.mem_cons.1 he with rfl | he
      · exact rdEv_fits bs 0 hl
      · exact rdEvs_fits n _ _ (Nat.le_trans (rdEv_few bs 0) hl) e he
    · simp
theorem readC_fits (b : List UInt8) (hl : b.length ≤ 1000000000) : (readC b).1.fits := by
  unfold readC
  dsimp only
  have l0 := inTake_few 1 b 0
  have hk : beVal (inTake 1 b 0).1 < 256 := inNum_lt 1 b 0
  generalize inTake 1 b 0 = a0 at l0 hk
  have l1 := inTake_few 8 a0.2.1 a0.2.2
  generalize inTake 8 a0.2.1 a0.2.2 = a1 at l1
  have l2 := inText_few 60 a1.2.1 a1.2.2
  have l2' := inText_firstE 60 a1.2.1 a1.2.2
  generalize inText 60 a1.2.1 a1.2.2 = a2 at l2 l2'
  have l3 := inTake_few 8 a2.2.1 a2.2.2
  generalize inTake 8 a2.2.1 a2.2.2 = a3 at l3
  have l4 := inTake_few 1 a3.2.1 a3.2.2
  generalize inTake 1 a3.2.1 a3.2.2 = a4 at l4
  have l5 := rdEvs_fits (beVal a4.1) a4.2.1 a4.2.2 (by omega)
  refine ⟨?_, ?_, (i64L_in _).1, (i64L_in _).2, (i64L_in _).1, (i64L_in _).2, (i64L_in _).1, (i64L_in _).2, (i64L_in _).1, (i64L_in _).2, (i64L_in _).1, (i64L_in _).2, ?_, l5⟩
  · dsimp only; omega
  · dsimp only; omega
  · show (ByteArray.mk _).size ≤ _
    rw [size_mk]
    omega
theorem getC_fits (b : List UInt8) (h : (getC b).2 = 0) (hl : b.length ≤ 1000000000) : (getC b).1.fits := by
  have h1 := (getC_ok h).2
  have h2 := readC_fits b hl
  rw [h1] at h2
  exact h2
theorem putC_few (c : Cmd) (h : (putC c).2 = 0) : (putC c).1.length ≤ 3000 := by
  obtain ⟨h1, h2⟩ := putC_ok h
  obtain ⟨_, h3, h4, h5⟩ := checkC_right h1
  have h6 := evsL_few c.es h5
  rw [h2]
  dsimp only
  unfold cmdL headC metaL
  simp only [List.length_append, be64_length, beBytes_length, textL_length, ← size_list]
  omega
theorem getC_cut (c : Cmd) (h : (putC c).2 = 0) (hf : c.fits) (k : Nat) (hk : k < (putC c).1.length) : (getC ((putC c).1.take k)).2 ≠ 0 := by
  intro h0
  have hl := putC_few c h
  have h1 := (getC_ok h0).1
  have h2 := getC_fits _ h0 (by rw [List.length_take]; omega)
  have h3 := getC_more _ ((putC c).1.drop k) (by rw [h1]) h2 (by
    intro e
    have := congrArg List.length e
    rw [List.length_drop] at this
    simp at this
    omega)
  rw [h1] at h3
  dsimp only at h3
  rw [List.take_append_drop] at h3
  exact h3 (by rw [getC_put c h hf])
theorem putC_bad2 {c : Cmd} (h : (putC c).2 ≠ 0) : (putC c).1 = [] := by
  rw [putC_snd] at h
  rw [putC_bad h]
end Go.Proofs.Ytnnnilpgnjndlaa
