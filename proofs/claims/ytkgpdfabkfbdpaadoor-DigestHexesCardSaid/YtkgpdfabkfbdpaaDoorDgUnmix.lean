/-
  The walks of Unmix and its helpers, of package digest and of its reference. Conditions: a uint64 argument is a uint64.
-/
import Derived.Test.YtkgpdfabkfbdpaaDoorDgWalks
namespace Go.Proofs.YtkgpdfabkfbdpaaDoor.Dg
open Go.RowKit

theorem of_u64 {n : Int} (h : U64 n) : ∃ x : BitVec 64, n = toI x := ⟨ofI n, (toI_ofI h).symm⟩

set_option maxHeartbeats 400000 in
theorem unshift_any (Y : BitVec 64) (s : Int) (w : World) (h1 : 22 ≤ s) (h2 : s ≤ 31) :
    Calls Tryd.prog 26 #[.int .u64 (toI Y), .int .u64 s] w fun e w' => e = .returned (.int .u64 (toI (un s.toNat Y 2))) ∧ w = w' := by
  go_enter Tryd.func26, Tryd.ntmps26
  go_wp2
  go_loop [5, 6] (fun x i => ∃ k : Nat, k ≤ 2 ∧ i = .int .u64 (s * (k + 1)) ∧ x = .int .u64 (toI (un s.toNat Y k))) (fun _ i => 93 - (intOf i).toNat)
  case atStart => exact ⟨0, by omega, by simp, rfl⟩
  case round =>
    obtain ⟨k, hk, rfl, rfl⟩ := hrel
    have e0 := un_spell Y (un s.toNat Y 0) s.toNat _ rfl
    have e1 := un_spell Y (un s.toNat Y 1) s.toNat _ rfl
    have E0 := Lib.hid e0
    have E1 := Lib.hid e1
    clear e0 e1
    have hc : k = 0 ∨ k = 1 ∨ k = 2 := by omega
    rcases hc with rfl | rfl | rfl
    · go_wp2
      go_round
      case rel => exact ⟨1, by omega, by go_num, by rw [E0.out]; rfl⟩
      case measure => simp [intOf]; omega
    · go_wp2
      go_round
      case rel => exact ⟨2, by omega, by go_num, by rw [E1.out]; rfl⟩
      case measure => simp [intOf]; omega
    · go_wp2
      go_ret
      exact ⟨rfl, rfl⟩

set_option maxHeartbeats 400000 in
theorem unshiftR_any (Y : BitVec 64) (s : Int) (w : World) (h1 : 0 ≤ s) (h2 : s ≤ 63) :
    Calls Tryd.prog 28 #[.int .u64 (toI Y), .int .u64 s] w fun e w' => e = .returned (.int .u64 (toI (un s.toNat Y 4))) ∧ w = w' := by
  go_enter Tryd.func28, Tryd.ntmps28
  go_wp2
  go_loop [5, 6] (fun x i => ∃ k : Nat, k ≤ 4 ∧ i = .int .i64 k ∧ x = .int .u64 (toI (un s.toNat Y k))) (fun _ i => 4 - (intOf i).toNat)
  case atStart => exact ⟨0, by omega, rfl, rfl⟩
  case round =>
    obtain ⟨k, hk, rfl, rfl⟩ := hrel
    have E0 := Lib.hid (un_spell Y (un s.toNat Y k) s.toNat _ rfl)
    by_cases hlt : k < 4
    · go_wp2
      go_round
      case rel => exact ⟨k + 1, by omega, by go_num, by rw [E0.out]; rfl⟩
      case measure => simp [intOf]; omega
    · obtain rfl : k = 4 := by omega
      go_wp2
      go_ret
      exact ⟨rfl, rfl⟩

set_option maxHeartbeats 400000 in
theorem inverse_any (m : BitVec 64) (w : World) :
    Calls Tryd.prog 27 #[.int .u64 (toI m)] w fun e w' => e = .returned (.int .u64 (toI (inv m 5))) ∧ w = w' := by
  go_enter Tryd.func27, Tryd.ntmps27
  go_wp2
  go_loop [3, 5] (fun x i => ∃ k : Nat, k ≤ 5 ∧ i = .int .i64 k ∧ x = .int .u64 (toI (inv m k))) (fun _ i => 5 - (intOf i).toNat)
  case atStart => exact ⟨0, by omega, rfl, rfl⟩
  case round =>
    obtain ⟨k, hk, rfl, rfl⟩ := hrel
    have E0 := Lib.hid (inv_spell m (inv m k))
    by_cases hlt : k < 5
    · go_wp2
      go_round
      case rel => exact ⟨k + 1, by omega, by go_num, by rw [E0.out]; rfl⟩
      case measure => simp [intOf]; omega
    · obtain rfl : k = 5 := by omega
      go_wp2
      go_ret
      exact ⟨rfl, rfl⟩

set_option maxHeartbeats 400000 in
theorem inverseR_any (m : BitVec 64) (w : World) :
    Calls Tryd.prog 29 #[.int .u64 (toI m)] w fun e w' => e = .returned (.int .u64 (toI (inv m 6))) ∧ w = w' := by
  go_enter Tryd.func29, Tryd.ntmps29
  go_wp2
  go_loop [3, 4] (fun x i => ∃ k : Nat, k ≤ 6 ∧ i = .int .i64 k ∧ x = .int .u64 (toI (inv m k))) (fun _ i => 6 - (intOf i).toNat)
  case atStart => exact ⟨0, by omega, rfl, rfl⟩
  case round =>
    obtain ⟨k, hk, rfl, rfl⟩ := hrel
    have E0 := Lib.hid (inv_spell m (inv m k))
    by_cases hlt : k < 6
    · go_wp2
      go_round
      case rel => exact ⟨k + 1, by omega, by go_num, by rw [E0.out]; rfl⟩
      case measure => simp [intOf]; omega
    · obtain rfl : k = 6 := by omega
      go_wp2
      go_ret
      exact ⟨rfl, rfl⟩

theorem un_r (y : BitVec 64) {s : Nat} (h : s = 27 ∨ s = 30 ∨ s = 31) : un s y 4 = un s y 2 := by
  rcases h with rfl | rfl | rfl <;> exact un_un (by decide) (by decide) y

set_option maxHeartbeats 400000 in
theorem unmix_any (n : Int) (w : World) (hn : U64 n) :
    Calls Tryd.prog 16 #[.int .u64 n] w fun e w' => e = .returned (.int .u64 (unmixI n)) ∧ w = w' := by
  obtain ⟨x, rfl⟩ := of_u64 hn
  have iF2 := fun W => inverse_any F2 W
  have iF1 := fun W => inverse_any F1 W
  rw [← F2_spell] at iF2
  rw [← F1_spell] at iF1
  have HF2 := Lib.hid iF2
  have HF1 := Lib.hid iF1
  clear iF1 iF2
  go_enter Tryd.func16, Tryd.ntmps16
  go_wp2_with fail
  refine (unshift_any _ _ _ (by decide) (by decide)).mono ?_
  rintro e w' ⟨rfl, rfl⟩
  go_wp2_with fail
  refine (HF2.out _).mono ?_
  rintro e w' ⟨rfl, rfl⟩
  go_wp2_with fail
  simp only [mul_spell]
  refine (unshift_any _ _ _ (by decide) (by decide)).mono ?_
  rintro e w' ⟨rfl, rfl⟩
  go_wp2_with fail
  refine (HF1.out _).mono ?_
  rintro e w' ⟨rfl, rfl⟩
  go_wp2_with fail
  simp only [mul_spell]
  refine (unshift_any _ _ _ (by decide) (by decide)).mono ?_
  rintro e w' ⟨rfl, rfl⟩
  go_wp2_with fail
  go_ret
  refine ⟨ret_int ?_, rfl⟩
  unfold unmixI unmixB
  rw [ofI_toI]

set_option maxHeartbeats 400000 in
theorem unmixR_any (n : Int) (w : World) (hn : U64 n) :
    Calls Tryd.prog 17 #[.int .u64 n] w fun e w' => e = .returned (.int .u64 (unmixI n)) ∧ w = w' := by
  obtain ⟨x, rfl⟩ := of_u64 hn
  have iF2 := fun W => inverseR_any F2 W
  have iF1 := fun W => inverseR_any F1 W
  rw [← F2_spell] at iF2
  rw [← F1_spell] at iF1
  have HF2 := Lib.hid iF2
  have HF1 := Lib.hid iF1
  clear iF1 iF2
  go_enter Tryd.func17, Tryd.ntmps17
  go_wp2_with fail
  refine (unshiftR_any _ _ _ (by decide) (by decide)).mono ?_
  rintro e w' ⟨rfl, rfl⟩
  go_wp2_with fail
  refine (HF2.out _).mono ?_
  rintro e w' ⟨rfl, rfl⟩
  go_wp2_with fail
  simp only [mul_spell]
  refine (unshiftR_any _ _ _ (by decide) (by decide)).mono ?_
  rintro e w' ⟨rfl, rfl⟩
  go_wp2_with fail
  refine (HF1.out _).mono ?_
  rintro e w' ⟨rfl, rfl⟩
  go_wp2_with fail
  simp only [mul_spell]
  refine (unshiftR_any _ _ _ (by decide) (by decide)).mono ?_
  rintro e w' ⟨rfl, rfl⟩
  go_wp2_with fail
  go_ret
  refine ⟨ret_int ?_, rfl⟩
  unfold unmixI unmixB
  rw [ofI_toI]
  show toI (un 30 (un 27 (un 31 x 4 * inv F2 6) 4 * inv F1 6) 4) = _
  rw [un_r _ (.inr (.inr rfl)), un_r _ (.inl rfl), un_r _ (.inr (.inl rfl)), inv_F1', inv_F2']
end Go.Proofs.YtkgpdfabkfbdpaaDoor.Dg
