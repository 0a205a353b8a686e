/- The statements' helpers: names, marks, copies of texts, walked. -/
import Derived.Test.YtadhboioaacaeaaGreatCWireTellsLists
import Derived.Test.YtadhboioaacaeaaGreatCWireTellsBook
import Derived.Test.YtadhboioaacaeaaGreatCWireTellsBytes

namespace Go.Proofs.YtadhboioaacaeaaGreat
open Go.RowKit
set_option maxHeartbeats 1000000
set_option maxRecDepth 100000
set_option linter.unusedVariables false

theorem info_strM : (Tryz.prog.info? 9).map (fun i => (i.zero, i.size, i.bytes)) = some (some (.string ByteArray.empty), 1, 16) := by kernel_rfl

/-- the mark of element k of list i -/
def nameB (i k : Nat) : List UInt8 := [109, UInt8.ofNat (65 + i % 26), UInt8.ofNat (65 + i / 26 % 26), UInt8.ofNat (48 + k % 10), UInt8.ofNat (48 + k / 10 % 10), UInt8.ofNat (48 + k / 100 % 10)]
def nameT (i k : Nat) : ByteArray := ⟨(nameB i k).toArray⟩
def mkT (i k : Nat) : List Value := [.string (nameT i k)]
theorem mkT_length (i k : Nat) : (mkT i k).length = 1 := rfl
theorem mkT_one (i k : Nat) : ∀ u ∈ mkT i k, u.oneCell' = true := by intro u hu; simp [mkT] at hu; subst hu; rfl
theorem ofNat_int (n : Nat) (h : n < 256) : ((UInt8.ofNat n).toNat : Int) = (n : Int) := by
  rw [UInt8.toNat_ofNat', Nat.mod_eq_of_lt h]

theorem name_any (i k : Nat) (w : World) (hi : i ≤ 1000000000) (hk : k ≤ 1000000000) :
    Calls Tryz.prog 102 #[.int .i64 i, .int .i64 k] w fun e w' => e = .returned (.string (nameT i k)) ∧ Below w.heap.size w w' := by
  have e1 : 65 + (i : Int) % 26 = ((UInt8.ofNat (65 + i % 26)).toNat : Int) := by rw [ofNat_int _ (by omega)]; omega
  have e2 : 65 + (i : Int) / 26 % 26 = ((UInt8.ofNat (65 + i / 26 % 26)).toNat : Int) := by rw [ofNat_int _ (by omega)]; omega
  have e3 : 48 + (k : Int) % 10 = ((UInt8.ofNat (48 + k % 10)).toNat : Int) := by rw [ofNat_int _ (by omega)]; omega
  have e4 : 48 + (k : Int) / 10 % 10 = ((UInt8.ofNat (48 + k / 10 % 10)).toNat : Int) := by rw [ofNat_int _ (by omega)]; omega
  have e5 : 48 + (k : Int) / 100 % 10 = ((UInt8.ofNat (48 + k / 100 % 10)).toNat : Int) := by rw [ofNat_int _ (by omega)]; omega
  have hn : nameT i k = ⟨(nameB i k).toArray⟩ := rfl
  unfold nameB at hn
  generalize UInt8.ofNat (65 + i % 26) = b1 at e1 hn
  generalize UInt8.ofNat (65 + i / 26 % 26) = b2 at e2 hn
  generalize UInt8.ofNat (48 + k % 10) = b3 at e3 hn
  generalize UInt8.ofNat (48 + k / 10 % 10) = b4 at e4 hn
  generalize UInt8.ofNat (48 + k / 100 % 10) = b5 at e5 hn
  have hstr := run_str_row (P := Tryz.prog) _ 50 9 5 Tryz.underlying50 Tryz.underlying5 Tryz.underlying9 w.heap.size 6 [109, b1, b2, b3, b4, b5]
    ((BlkIs.new w 5 #[.int .u8 109, byteV b1, byteV b2, byteV b3, byteV b4, byteV b5]).bytes rfl)
  simp only [List.length_cons, List.length_nil, Nat.zero_add, Nat.reduceAdd, byteV] at hstr
  have Hn := Lib.hid hn; clear hn
  have h1 := b1.toNat_lt; have h2 := b2.toNat_lt; have h3 := b3.toNat_lt; have h4 := b4.toNat_lt; have h5 := b5.toNat_lt
  go_enter Tryz.func102, Tryz.ntmps102
  go_wp2_with fail
  go_ret
  rw [Hn.out]
  exact ⟨rfl, (Below.refl _ _).alloc (Nat.le_refl _) _⟩

theorem markTexts_any (i k n : Nat) (w : World) (hi : i ≤ 1000000000) (hk : k + n ≤ 1000000000) :
    Calls Tryz.prog 93 #[.int .i64 i, .int .i64 k, .int .i64 n] w fun e w' => ∃ v, e = .returned v ∧
      w'.ownsRow w.heap.size 9 1 v n (marksOf mkT i k n) ∧ Below w.heap.size w w' := by
  obtain ⟨i0, hi0, hz0, hz1, hz2⟩ := info_parts info_strM
  go_enter Tryz.func93, Tryz.ntmps93
  go_wp2_with fail
  go_loopw [7, 8] (fun o q wr => ∃ (m : Nat) (v : Value), v = o ∧ m ≤ n ∧ q = .int .i64 ((k + m : Nat) : Int) ∧ wr.ownsRow w.heap.size 9 1 v m (marksOf mkT i k m) ∧ Below w.heap.size w wr) (fun _ q _ => k + n - (intOf q).toNat)
  case atStart => exact ⟨0, _, rfl, Nat.zero_le _, rfl, World.ownsRow_nil _ _ _ _, Below.refl _ _⟩
  case round =>
    obtain ⟨m, v, rfl, hm, rfl, hown, hb⟩ := hrel
    have Hown := Lib.hid hown; clear hown
    by_cases hlt : m < n
    · have h1 : ((k + m : Nat) : Int) < (k : Int) + (n : Int) := by omega
      have hc : ((k + m : Nat) : Int) = (k : Int) + (m : Int) := by omega
      have hsucc := marksOf_succ mkT i k m
      have Hsucc := Lib.hid hsucc; clear hsucc
      obtain ⟨q, hq⟩ : ∃ q : Nat, k + m = q := ⟨_, rfl⟩
      rw [hq] at h1 Hsucc ⊢
      have Hq := Lib.hid hq
      have hq9 : q ≤ 1000000000 := by omega
      clear hc hq
      go_wp2_with fail
      refine (name_any i q _ hi hq9).mono ?_
      rintro e w1 ⟨rfl, hb1⟩
      have hown1 := own_below Hown.out hb1 (fun q hq => (Hown.out.lt q hq).2)
      have hbb := hb.trans (hb1.mono hb.size)
      have Hown1 := Lib.hid hown1; clear hown1
      go_wp2_with (at_builtin; refine wpList_append_lies _ rfl (.tmp 17) (.tmp 21) _ rfl w.heap.size 9 i0 _ 1 16 Tryz.underlying22 hi0 hz0 hz1 hz2 rfl (by omega) v m (marksOf mkT i k m) rfl (Hown1.out.alloc _) ⟨w1.heap.size, 0, none⟩ 1 1 [.string (nameT i q)] rfl rfl (World.news_of_block (cs := #[.string (nameT i q)]) (heap_alloc_new w1 _)) (by simp [Value.oneCell']) (by omega) (by simp only [maxLen]; omega) (by omega) (by have := hbb.size; simp <;> omega) (w1.heap.size + 1) (by simp) ?_; intro g cp w2 hown2 hgrow hat1 hlt1)
      have hb2 : Below w.heap.size w w2 := (hbb.alloc hbb.size _).grown hgrow (by have := hbb.size; simp <;> omega) (fun q hq => (Hown1.out.lt q hq).1)
      go_roundw
      case rel =>
        refine ⟨m + 1, _, rfl, by omega, ?_, ?_, hb2⟩
        · rw [← Hq.out]; go_num
        · rw [Hsucc.out]; exact hown2
      case measure =>
        have := Hq.out
        simp [intOf]; omega
    · obtain rfl : m = n := by omega
      have h1 : ¬ ((k + m : Nat) : Int) < (k : Int) + (m : Int) := by omega
      have hc : ((k + m : Nat) : Int) = (k : Int) + (m : Int) := by omega
      have hd : decide ((k : Int) + (m : Int) < (k : Int) + (m : Int)) = false := by simp
      rw [hc]
      clear hc h1
      go_wp2_with fail
      go_ret
      exact ⟨v, rfl, Hown.out, hb⟩

theorem copyTexts_any (n : Nat) (v : Value) (xs : List Value) (w : World) (hs : Shows w 1 v xs) (hn : xs.length = n) (h9 : n ≤ 1000000000) (h1 : ∀ u ∈ xs, u.oneCell' = true) :
    Calls Tryz.prog 44 #[v] w fun e w' => ∃ v', e = .returned v' ∧ w'.ownsRow w.heap.size 9 1 v' n xs ∧ Below w.heap.size w w' := by
  obtain ⟨i0, hi0, hz0, hz1, hz2⟩ := info_parts info_strM
  obtain ⟨A, m, cap, rfl, hr, hc⟩ := hs
  obtain rfl : m = n := by have := hr.len; omega
  have Hr := Lib.hid hr; have H1 := Lib.hid h1
  clear hr h1 hn
  go_enter Tryz.func44, Tryz.ntmps44
  go_wp2_with (at_builtin; refine wpList_append_sl _ rfl (.const (.slice none 0 0)) (.tmp 3) _ rfl w.heap.size 9 i0 _ 1 16 Tryz.underlying22 hi0 hz0 hz1 hz2 rfl (by omega) (.slice none 0 0) 0 [] rfl (World.ownsRow_nil _ _ _ _) w.heap.size A m cap xs rfl Hr.out H1.out (by simp only [maxLen]; omega) (by omega) (Nat.le_refl _) ?_; intro v1 w1 hown1 hg1 hat1)
  go_ret
  have hb1 : Below w.heap.size w w1 := (Below.refl _ _).grown hg1 (Nat.le_refl _) (by simp [Value.ownBlock])
  exact ⟨v1, rfl, by simpa using hown1, hb1⟩
end Go.Proofs.YtadhboioaacaeaaGreat
