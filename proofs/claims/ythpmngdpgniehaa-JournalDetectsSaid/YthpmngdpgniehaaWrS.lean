/-
  The walks of the reference's Reader, first part: Take, Uint, Signed, Int, Left, Err, size. Conditions: the reader's block and its bytes lie in memory.
-/
import Derived.Test.YthpmngdpgniehaaWrR3
namespace Go.Proofs.Ythpmngdpgniehaa.Wr
open Go.RowKit Go.Proofs.Ythpmngdpgniehaa.Mem

/-- a power of 128, behind a word. -/
def pw (k : Nat) : Nat := 128 ^ k
theorem group_add (acc c i : Nat) (hi : i ≤ 9) (ha : acc < 128 ^ i) (hc : c < 256) (h9 : ¬ (i = 9 ∧ 1 < c)) :
    IntKind.u64.wrap ((acc : Int) + IntKind.u64.wrap ((c : Int) % 128 * (pw i : Int))) = ((acc + c % 128 * 128 ^ i : Nat) : Int) := by
  have hb : c % 128 * 128 ^ i < 9223372036854775809 := by
    rcases Nat.lt_or_ge i 9 with g | g
    · have h1 : 128 ^ i ≤ 128 ^ 8 := Nat.pow_le_pow_right (by decide) (by omega)
      have h2 : c % 128 * 128 ^ i ≤ 127 * 128 ^ 8 := Nat.mul_le_mul (by omega) h1
      omega
    · obtain rfl : i = 9 := by omega
      have : c ≤ 1 := by omega
      have : c % 128 ≤ 1 := by omega
      have h2 : c % 128 * 128 ^ 9 ≤ 1 * 128 ^ 9 := Nat.mul_le_mul this (Nat.le_refl _)
      omega
  have ha2 : acc < 9223372036854775808 := Nat.lt_of_lt_of_le ha (Nat.le_trans (Nat.pow_le_pow_right (by decide) hi) (by decide))
  have e0 : (c : Int) % 128 = ((c % 128 : Nat) : Int) := by omega
  have e1 : IntKind.u64.wrap (((c % 128 : Nat) : Int) * (pw i : Int)) = ((c % 128 * 128 ^ i : Nat) : Int) := by
    unfold pw
    rw [← Int.natCast_mul, IntKind.wrap_u64]
    omega
  rw [e0, e1, IntKind.wrap_u64]
  omega
theorem unit_next {k : Nat} (h : k < 9) : IntKind.u64.wrap ((pw k : Int) * 128) = (pw (k + 1) : Int) := by
  have h1 : 128 ^ k ≤ 128 ^ 8 := Nat.pow_le_pow_right (by decide) (by omega)
  unfold pw
  rw [IntKind.wrap_u64, Nat.pow_succ]
  omega
theorem retv_last' {R : Int × Int × Int} {acc d p k : Nat} {X : Int} (w : World) (h : R = (((acc + d * 128 ^ k : Nat) : Int), ((p + k + 1 : Nat) : Int), 0)) (ho : X = ((acc + d % 128 * 128 ^ k : Nat) : Int)) (hm : d % 128 = d) :
    RetV R w (.returned (.tuple #[.int .u64 X, .int .i64 ((p : Int) + (k : Int) + 1), .int .i64 0])) w := retv_last w h ho hm

set_option maxRecDepth 100000 in
set_option maxHeartbeats 2000000 in
theorem takeR_any (bs : List UInt8) (p n c : Nat) (A : Option Addr) (w : World) (hs : Sl w 1 A n (byts bs)) (hp : p ≤ n) (hn : n ≤ 100000000000) :
    Calls Try.prog 90 #[.slice A n c, .int .i64 (p : Int)] w (RetV (vres bs p) w) := by
  have LN : Hid (bs.length = n) := by show _ = _; simpa [byts_len] using hs.1
  have HV := Lib.hid (vrest_zero bs p)
  have HS := Lib.hid hs
  generalize vres bs p = R at *
  clear hs
  go_enter Try.func90, Try.ntmps90
  go_wp2_with fail
  go_loop [7, 8, 9] (fun x u i => ∃ k acc : Nat, k ≤ 9 ∧ i = .int .i64 k ∧ u = .int .u64 (pw k : Int) ∧ x = .int .u64 (acc : Int) ∧ Hid (acc < 128 ^ k) ∧ Hid (vrest bs p k acc = R)) (fun _ _ i => 10 - (intOf i).toNat)
  case atStart => exact ⟨0, 0, by omega, rfl, rfl, rfl, by show 0 < _; decide, HV⟩
  case round =>
    obtain ⟨k, acc, hk, rfl, rfl, rfl, HA, HR⟩ := hrel
    have hk10 : k < 10 := by omega
    by_cases hlt : p + k < n
    · have kl : p + k < bs.length := by have := LN.out; omega
      obtain ⟨b, o, rfl, hc⟩ := HS.out.open_ (by omega)
      have g := hc (p + k) _ (byts_at kl)
      have hlti : ((p + k : Nat) : Int) < (n : Int) := by omega
      have h0i : (0 : Int) ≤ ((p + k : Nat) : Int) := by omega
      have HC9 := Lib.hid (fun h9 hc => vrest_over (acc := acc) kl h9 hc)
      have HC0 := Lib.hid (fun h0 hc => vrest_corrupt (acc := acc) kl h0 hc)
      have HCL := Lib.hid (fun h9 h0 hc => vrest_last (acc := acc) kl h9 h0 hc)
      have HCM := Lib.hid (fun h9 hc => vrest_more (acc := acc) kl h9 hc)
      have hd := toNat_lt bs[p + k]
      clear hc
      generalize bs[p + k].toNat = d at *
      by_cases h9 : k = 9 ∧ 1 < d
      · have HR2 : Hid (R = (0, 0, 9)) := HR.out.symm.trans (HC9.out h9.1 h9.2)
        have t9 : ((k : Int) == 9) = true := by simp; omega
        have hd1 : 1 < d := h9.2
        clear HC9 HC0 HCL HCM HR HA h9
        go_wp2_with fail
        go_ret3
        exact ⟨by rw [HR2.out]; rfl, rfl⟩
      · have t9 : ((k : Int) == 9) = false ∨ (k = 9 ∧ ¬ 1 < d) := by
          by_cases e : k = 9
          · exact .inr ⟨e, fun h => h9 ⟨e, h⟩⟩
          · exact .inl (by simp; omega)
        have HO := Lib.hid (group_add acc d k hk HA.out hd h9)
        have HG := Lib.hid (group_lt (c := d) HA.out)
        by_cases hm : d < 128
        · by_cases h0 : d = 0 ∧ 0 < k
          · have HR2 : Hid (R = (0, 0, 27)) := HR.out.symm.trans (HC0.out h0.2 h0.1)
            have td : ((d : Int) == 0) = true := by simp; omega
            have hk0 : 0 < k := h0.2
            have hd1 : d < 2 := by omega
            clear HC9 HC0 HCL HCM HR HA HO HG h0 h9
            rcases t9 with t9 | ⟨e9, _⟩
            · go_wp2_with fail
              go_ret3
              exact ⟨by rw [HR2.out]; rfl, rfl⟩
            · have t9 : ((k : Int) == 9) = true := by simp; omega
              clear e9
              go_wp2_with fail
              go_ret3
              exact ⟨by rw [HR2.out]; rfl, rfl⟩
          · have HR2 := Lib.hid (HR.out.symm.trans (HCL.out h9 h0 hm))
            have HM : Hid (d % 128 = d) := Nat.mod_eq_of_lt hm
            clear HC9 HC0 HCL HCM HR HA HG h9
            rcases t9 with t9 | ⟨e9, hd1⟩
            · by_cases e : d = 0
              · have td : ((d : Int) == 0) = true := by simp; omega
                have hk0 : k < 1 := by omega
                clear e h0
                go_wp2_with fail
                go_ret3
                exact retv_last' _ HR2.out HO.out HM.out
              · have td : ((d : Int) == 0) = false := by simp; omega
                clear e h0
                go_wp2_with fail
                go_ret3
                exact retv_last' _ HR2.out HO.out HM.out
            · have t9 : ((k : Int) == 9) = true := by simp; omega
              have td : ((d : Int) == 0) = false := by simp; omega
              clear e9 h0
              go_wp2_with fail
              go_ret3
              exact retv_last' _ HR2.out HO.out HM.out
        · have HR2 := Lib.hid (HR.out.symm.trans (HCM.out h9 hm))
          have HM : Hid (d % 128 = d - 128) := by show _ = _; omega
          have hk9 : k < 9 := by omega
          have t9' : ((k : Int) == 9) = false := by simp; omega
          have td : ((d : Int) == 0) = false := by simp; omega
          have HUN := Lib.hid (unit_next hk9)
          clear HC9 HC0 HCL HCM HR HA h9 t9
          go_wp2_with fail
          go_round
          case rel => exact ⟨k + 1, acc + d % 128 * 128 ^ k, by omega, by go_num, by rw [HUN.out], by rw [HO.out], HG, by rw [HM.out]; exact HR2.out.symm⟩
          case measure => simp [intOf]; omega
    · have HR2 : Hid (R = (0, 0, 28)) := by
        show _ = _
        rw [← HR.out]
        exact vrest_nil (by have := LN.out; omega)
      have t1 : decide ((n : Int) ≤ ((p + k : Nat) : Int)) = true := by simp; omega
      go_wp2_with fail
      go_ret3
      exact ⟨by rw [HR2.out]; rfl, rfl⟩
end Go.Proofs.Ythpmngdpgniehaa.Wr
