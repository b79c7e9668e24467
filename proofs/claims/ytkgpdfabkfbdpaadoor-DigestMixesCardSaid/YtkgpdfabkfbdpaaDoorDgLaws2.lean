/-
  The walks of two more statements of chapter 7 (DigestKeys, DigestAppends): each returns true, and changes nothing that was there. Conditions: the arguments are of their types; the table hexDigits holds its sixteen digits.
-/
import Derived.Test.YtkgpdfabkfbdpaaDoorDgLaws
namespace Go.Proofs.YtkgpdfabkfbdpaaDoor.Dg
open Go.RowKit

set_option maxHeartbeats 1000000 in
theorem keys_walk (k o : Int) (s t : ByteArray) (w : World) (hk : U64 k) (ho : U64 o) (hs : s.size ≤ maxLen) (ht : t.size ≤ maxLen) (hT : Tab w) :
    Calls Tryd.prog 10 #[.int .u64 k, .int .u64 o, .string s, .string t] w fun e w' => e = .returned (.bool true) ∧ Below w.heap.size w w' := by
  have HT := Lib.hid hT
  have HS := Lib.hid hs
  have Ht := Lib.hid ht
  clear hT hs ht
  by_cases h1 : 2000 < s.size
  · go_enter Tryd.func10, Tryd.ntmps10
    go_wp2_with fail
    refine (awake_any _ HT.out).mono ?_
    rintro e w1 ⟨rfl, hb⟩
    go_wp2_with fail
    go_ret
    exact ⟨rfl, hb⟩
  by_cases h2 : 2000 < t.size
  · go_enter Tryd.func10, Tryd.ntmps10
    go_wp2_with fail
    refine (awake_any _ HT.out).mono ?_
    rintro e w1 ⟨rfl, hb⟩
    go_wp2_with fail
    go_ret
    exact ⟨rfl, hb⟩
  have K1 : Hid ((keyedI k s.data.toList == keyedI o s.data.toList) = (k == o)) := by show _ = _; rw [Bool.eq_iff_iff, beq_iff_eq, beq_iff_eq]; exact keyed_key hk ho _
  have K2 : Hid ((chainI k s.data.toList == chainI o s.data.toList) = (k == o)) := by show _ = _; rw [Bool.eq_iff_iff, beq_iff_eq, beq_iff_eq]; exact chain_key hk ho _
  have K3 : Hid ((keyedI k s.data.toList == keyedI k t.data.toList) = (sumI s.data.toList == sumI t.data.toList)) := by show _ = _; rw [Bool.eq_iff_iff, beq_iff_eq, beq_iff_eq]; exact keyed_text _ _ _
  have K4 : Hid ((chainI k s.data.toList == chainI k t.data.toList) = (sumI s.data.toList == sumI t.data.toList)) := by show _ = _; rw [Bool.eq_iff_iff, beq_iff_eq, beq_iff_eq]; exact chain_text _ _ _
  go_enter Tryd.func10, Tryd.ntmps10
  go_wp2_with fail
  refine (keyed_any _ _ _ hk HS.out).mono ?_
  rintro e w' ⟨rfl, rfl⟩
  go_wp2_with fail
  refine (keyed_any _ _ _ ho HS.out).mono ?_
  rintro e w' ⟨rfl, rfl⟩
  have k1 := K1.out
  go_wp2_with fail
  clear k1
  refine (chain_any _ _ _ HS.out).mono ?_
  rintro e w' ⟨rfl, rfl⟩
  go_wp2_with fail
  refine (chain_any _ _ _ HS.out).mono ?_
  rintro e w' ⟨rfl, rfl⟩
  have k2 := K2.out
  go_wp2_with fail
  clear k2
  refine (sum_any _ _ HS.out).mono ?_
  rintro e w' ⟨rfl, rfl⟩
  go_wp2_with fail
  refine (sum_any _ _ Ht.out).mono ?_
  rintro e w' ⟨rfl, rfl⟩
  go_wp2_with fail
  refine (keyed_any _ _ _ hk HS.out).mono ?_
  rintro e w' ⟨rfl, rfl⟩
  go_wp2_with fail
  refine (keyed_any _ _ _ hk Ht.out).mono ?_
  rintro e w' ⟨rfl, rfl⟩
  have k3 := K3.out
  go_wp2_with fail
  clear k3
  refine (chain_any _ _ _ HS.out).mono ?_
  rintro e w' ⟨rfl, rfl⟩
  go_wp2_with fail
  refine (chain_any _ _ _ Ht.out).mono ?_
  rintro e w' ⟨rfl, rfl⟩
  have k4 := K4.out
  go_wp2_with fail
  clear k4
  refine (awake_any _ HT.out).mono ?_
  rintro e w1 ⟨rfl, hb⟩
  go_wp2_with fail
  go_ret
  exact ⟨rfl, hb⟩

theorem data_append (s t : ByteArray) : (s ++ t).data.toList = s.data.toList ++ t.data.toList := by simp
theorem sum_push (s : ByteArray) (c : UInt8) : sumI (s ++ ⟨#[c]⟩).data.toList = IntKind.u64.wrap (bits .xor .u64 (sumI s.data.toList) (IntKind.u64.wrap (c.toNat : Int)) * 1099511628211) := by
  rw [data_append, show (⟨#[c]⟩ : ByteArray).data.toList = [c] from rfl]
  unfold sumI
  rw [sumB_snoc, step_spell]

set_option maxHeartbeats 1000000 in
theorem appends_walk (s t : ByteArray) (c : UInt8) (w : World) (hT : Tab w) :
    Calls Tryd.prog 4 #[.string s, .string t, .int .u8 (c.toNat : Int)] w fun e w' => e = .returned (.bool true) ∧ Below w.heap.size w w' := by
  have HT := Lib.hid hT
  clear hT
  by_cases h1 : 2000 < s.size
  · go_enter Tryd.func4, Tryd.ntmps4
    go_wp2_with fail
    refine (awake_any _ HT.out).mono ?_
    rintro e w1 ⟨rfl, hb⟩
    go_wp2_with fail
    go_ret
    exact ⟨rfl, hb⟩
  by_cases h2 : 2000 < t.size
  · go_enter Tryd.func4, Tryd.ntmps4
    go_wp2_with fail
    refine (awake_any _ HT.out).mono ?_
    rintro e w1 ⟨rfl, hb⟩
    go_wp2_with fail
    go_ret
    exact ⟨rfl, hb⟩
  have g1 : decide ((2000 : Int) < (s.size : Int)) = false := by simp; omega
  have g2 : decide ((2000 : Int) < (t.size : Int)) = false := by simp; omega
  have hconv := run_convert_bytes_back (P := Tryd.prog) (w.alloc (.cells #[.int .u8 (c.toNat : Int)] 5)) 26 9 5 ⟨w.heap.size, 0, none⟩ 1 [c] Tryd.underlying26 Tryd.underlying5 Tryd.underlying9
    (fun j hj => by obtain rfl : j = 0 := by simpa using hj
                    rw [Addr.add_lit, World.cell?_alloc_mark]; rfl)
  simp only [List.length_singleton, List.toArray] at hconv
  have HP := Lib.hid (sum_push s c)
  have hsz : (⟨#[c]⟩ : ByteArray).size = 1 := rfl
  have HB := Lib.hid ((Below.refl w.heap.size w).alloc (Nat.le_refl _) (.cells #[.int .u8 (c.toNat : Int)] 5))
  go_enter Tryd.func4, Tryd.ntmps4
  go_wp2_with fail
  clear hconv
  generalize hW : w.alloc (.cells #[.int .u8 (c.toNat : Int)] 5) = W
  rw [hW] at HB
  clear hW
  refine (sum_any _ _ (by unfold maxLen; simp [ByteArray.size_append, hsz]; omega)).mono ?_
  rintro e w' ⟨rfl, rfl⟩
  rw [HP.out]
  go_wp2_with fail
  refine (sum_any _ _ (by unfold maxLen; omega)).mono ?_
  rintro e w' ⟨rfl, rfl⟩
  go_wp2_with fail
  refine (sum_any _ _ (by unfold maxLen; omega)).mono ?_
  rintro e w' ⟨rfl, rfl⟩
  go_wp2_with fail
  go_loop [7, 8] (fun x i => ∃ k : Nat, k ≤ t.size ∧ i = .int .i64 k ∧ x = .int .u64 (toI (sumFrom (sumB s.data.toList) (t.data.toList.take k)))) (fun _ i => t.size - (intOf i).toNat)
  case atStart => exact ⟨0, Nat.zero_le _, rfl, rfl⟩
  case round =>
    obtain ⟨k, hk, rfl, rfl⟩ := hrel
    by_cases hlt : k < t.size
    · have HS : Hid (IntKind.u64.wrap (bits .xor .u64 (toI (sumFrom (sumB s.data.toList) (t.data.toList.take k))) (IntKind.u64.wrap (t[k].toNat : Int)) * 1099511628211) = toI (sumFrom (sumB s.data.toList) (t.data.toList.take (k + 1)))) := by
        show _ = _
        rw [take_snoc t k hlt, step_spell]
        unfold sumFrom
        rw [List.foldl_append]
        rfl
      go_wp2
      go_round
      case rel => exact ⟨k + 1, by omega, by go_num, by rw [← HS.out]⟩
      case measure => simp [intOf]; omega
    · have HE : Hid (sumI (s ++ t).data.toList = toI (sumFrom (sumB s.data.toList) (t.data.toList.take k))) := by
        show _ = _
        rw [List.take_of_length_le (by simp; omega), data_append, sumI, sumB_append]
      go_wp2_with fail
      refine (sum_any _ _ (by unfold maxLen; simp [ByteArray.size_append]; omega)).mono ?_
      rintro e w' ⟨rfl, rfl⟩
      rw [HE.out]
      go_wp2_with fail
      refine (awake_any _ (HT.out.below HB.out)).mono ?_
      rintro e w1 ⟨rfl, hb⟩
      go_wp2_with fail
      go_ret
      exact ⟨rfl, HB.out.trans (hb.mono HB.out.size)⟩
end Go.Proofs.YtkgpdfabkfbdpaaDoor.Dg
