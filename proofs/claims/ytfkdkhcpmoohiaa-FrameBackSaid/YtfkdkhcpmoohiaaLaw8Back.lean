/- chapter 8: FrameBack, walked. -/
import Derived.Test.YtfkdkhcpmoohiaaLaw8
namespace Go.Proofs.Ytfkdkhcpmoohiaa
open Go.RowKit
set_option maxHeartbeats 400000
set_option maxRecDepth 100000
set_option linter.unusedVariables false

theorem frameBack_any (A : Option Addr) (n cap : Nat) (ss : List ByteArray) (w : World) (hl : ss.length = n) (hr : SlR w w.heap.size 1 A n (strVs ss))
    (hs : ∀ s ∈ ss, s.size ≤ 9223372036854775807) (hnc : n ≤ cap) (hcm : cap ≤ 9223372036854775807) :
    Calls Try.prog 4 #[.slice A n cap] w fun e w' => e = .returned (.bool true) ∧ Below w.heap.size w w' := by
  have hsh := short_any 30 3000 n cap w.heap.size A ss w hr (Nat.le_refl _) (by omega) hs (by omega) (by omega)
  have Hsh := Lib.hid hsh; clear hsh
  cases hc : shortB 30 3000 ss with
  | false =>
    have Hc := Lib.hid hc; clear hc hr
    go_enter Try.func4, Try.ntmps4
    go_wp2_with fail
    refine Hsh.out.mono ?_
    rintro e w1 ⟨rfl, hb1⟩
    rw [Hc.out]
    go_wp2_with fail
    refine (alive8_any _).mono ?_
    rintro e w2 ⟨rfl, hb2⟩
    go_wp2_with fail
    go_ret
    exact ⟨rfl, hb1.trans (hb2.mono hb1.size)⟩
  | true =>
    have hfew : n ≤ 30 ∧ bytesOf ss ≤ 3000 := by unfold shortB at hc; rw [decide_eq_true_iff] at hc; omega
    obtain ⟨hf1, hf2⟩ := hfew
    have hall : ∀ k, (layAll (bodies (ss.take k))).length ≤ 3360 := fun k => layAll_take_le ss k 30 3000 (by omega) hf2
    have hsz : ∀ s ∈ ss, s.size ≤ 3000 := fun s h => Nat.le_trans (size_le_bytesOf ss s h) hf2
    have Hc := Lib.hid hc; have Hr := Lib.hid hr; have Hl := Lib.hid hl; have Hall := Lib.hid hall; have Hsz := Lib.hid hsz
    clear hc hr hl hall hsz hs
    go_enter Try.func4, Try.ntmps4
    go_wp2_with fail
    refine Hsh.out.mono ?_
    rintro e w1 ⟨rfl, hb1⟩
    rw [Hc.out]
    go_wp2_with fail
    go_loopw [3, 4] (fun t i wr => ∃ k : Nat, k ≤ n ∧ i = .int .i64 k ∧ t = .string ⟨(layAll (bodies (ss.take k))).toArray⟩ ∧ Below w.heap.size w wr) (fun _ i _ => n - (intOf i).toNat)
    case atStart => exact ⟨0, Nat.zero_le _, rfl, rfl, hb1⟩
    case round =>
      obtain ⟨k, hk, rfl, rfl, hb⟩ := hrel
      have hkl := Hall.out k
      by_cases hlt : k < n
      · obtain ⟨ad, u, hA, had, hu, hcell⟩ := (Hr.out.below hb).get hlt
        subst hA
        obtain ⟨s, hs1, rfl⟩ := strVs_get hu
        have hs3 := Hsz.out s (List.mem_of_getElem? hs1)
        have hst := bodies_take ss k s hs1
        have hfl : (frameL s.data.toList).length = s.size + 12 := by rw [frameL_length, ← size_list]
        have hpl := putL_ok (b := s.data.toList) (by rw [← size_list]; omega)
        have hsn := layAll_snoc (bodies (ss.take k)) s.data.toList
        rw [← hst] at hsn
        generalize frameL s.data.toList = F at hfl hpl hsn
        have hne : ((F.length : Int) != (s.size : Int) + 12) = false := by rw [hfl]; simp
        have hF : F.length ≤ 3012 := by omega
        have Hpl := Lib.hid hpl; have Hsn := Lib.hid hsn
        clear hu hs1 hst hfl hpl hsn
        have hlt0 := Lib.hid had; clear had
        go_wp2_with fail
        refine (fput_any s _ (by omega)).mono ?_
        rintro e w2 ⟨rfl, hb2⟩
        rw [Hpl.out]
        have hcell2 : w2.cell? (ad.add k) = some (.string s) := (hb2.cell (p := ad.add k) (by rw [add_block]; exact Nat.lt_of_lt_of_le hlt0.out hb.size)).trans hcell
        clear hcell
        go_wp2_with fail
        all_goals first
          | (exfalso; omega)
          | (go_roundw
             case rel => exact ⟨k + 1, by omega, by go_num, by rw [Hsn.out, str_append], hb.trans (hb2.mono hb.size)⟩
             case measure => simp [intOf]; omega)
      · obtain rfl : k = n := by omega
        go_wp2_with fail
        go_loopw [3, 7] (fun t i wq => ∃ m : Nat, m ≤ k ∧ i = .int .i64 ((m : Int) - 1) ∧ t = .string ⟨(layAll (bodies (ss.take m))).toArray⟩ ∧ Below w.heap.size w wq) (fun _ i _ => (intOf i + 1).toNat)
        case atStart => exact ⟨k, Nat.le_refl _, rfl, rfl, hb⟩
        case round =>
          obtain ⟨m, hm, rfl, rfl, hbm⟩ := hrel
          clear hkl
          have hml := Hall.out m
          cases m with
          | zero =>
            rw [show layAll (bodies (ss.take 0)) = [] from rfl]
            clear hml
            go_wp2_with fail
            refine (last_any _ _ (by decide)).mono ?_
            rintro e w2 ⟨rfl, hb2⟩
            rw [show lastL _ = ([], 0, 5) from last_nil]
            go_wp2_with fail
            refine (alive8_any _).mono ?_
            rintro e w3 ⟨rfl, hb3⟩
            go_wp2_with fail
            go_ret
            exact ⟨rfl, hbm.trans ((hb2.trans (hb3.mono hb2.size)).mono hbm.size)⟩
          | succ m =>
            rw [show ((m + 1 : Nat) : Int) - 1 = (m : Int) from by omega]
            have hlt : m < k := by omega
            obtain ⟨ad, u, hA, had, hu, hcell⟩ := (Hr.out.below hbm).get hlt
            subst hA
            obtain ⟨s, hs1, rfl⟩ := strVs_get hu
            have hs3 := Hsz.out s (List.mem_of_getElem? hs1)
            have hst := bodies_take ss m s hs1
            have hsn := layAll_snoc (bodies (ss.take m)) s.data.toList
            rw [← hst] at hsn
            have hla := last_frame s.data.toList (layAll (bodies (ss.take m))) (by rw [← size_list]; omega)
            rw [← hsn, ← size_list] at hla
            have hlen : (layAll (bodies (ss.take (m + 1)))).length = (layAll (bodies (ss.take m))).length + (s.size + 12) := by rw [hsn, List.length_append, frameL_length, ← size_list]
            have hcut : (layAll (bodies (ss.take (m + 1)))).take (layAll (bodies (ss.take m))).length = layAll (bodies (ss.take m)) := by rw [hsn, List.take_left' rfl]
            generalize layAll (bodies (ss.take (m + 1))) = L at hml hla hlen hcut hsn ⊢
            obtain ⟨D, hD⟩ : ∃ D, layAll (bodies (ss.take m)) = D := ⟨_, rfl⟩
            rw [hD] at hlen hcut
            have HD := Lib.hid hD; have Hla := Lib.hid hla; have Hlen := Lib.hid hlen; have Hcut := Lib.hid hcut
            have hlt0 := Lib.hid had
            have hne : (((s.size + 12 : Nat) : Int) != (s.size : Int) + 12) = false := by simp
            have hD2 : D.length ≤ L.length := by omega
            have hsub : (L.length : Int) - ((s.size : Int) + 12) = (D.length : Int) := by omega
            clear hu hs1 hst hsn hla hlen hcut hD had
            go_wp2_with fail
            refine (last_any _ _ (by rw [size_mk]; omega)).mono ?_
            rintro e w2 ⟨rfl, hb2⟩
            rw [show lastL (ByteArray.mk L.toArray).data.toList = _ from Hla.out]
            have hcell2 : w2.cell? (ad.add m) = some (.string s) := (hb2.cell (p := ad.add m) (by rw [add_block]; exact Nat.lt_of_lt_of_le hlt0.out hbm.size)).trans hcell
            clear hcell
            have hse : ((⟨s.data.toList.toArray⟩ : ByteArray).toList == s.toList) = true := by simp
            go_wp2_with fail
            go_roundw
            case rel => exact ⟨m, by omega, rfl, by rw [str_to, HD.out]; exact congrArg (fun x : List UInt8 => Value.string ⟨x.toArray⟩) Hcut.out, hbm.trans (hb2.mono hbm.size)⟩
            case measure => simp [intOf] <;> omega
end Go.Proofs.Ytfkdkhcpmoohiaa
