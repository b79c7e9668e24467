/-
  The walks of wire's Reader, first part: varint, ready, Uint, unzigzag, Int. Conditions: the reader's block and its bytes lie in memory.
-/
import Derived.Test.YthpmngdpgniehaaWrW2
import Derived.Deep.DeepCutAuto
import Derived.Deep.RegionHeld3
namespace Go.Proofs.Ythpmngdpgniehaa.Wr
open Go.RowKit Go.Proofs.Ythpmngdpgniehaa.Mem

/-! ### plain: the rounds of varint -/
/-- what varint returns for bytes from an offset on. -/
def vres (bs : List UInt8) (p : Nat) : Int × Int × Int :=
  match vt 0 (bs.drop p) with
  | .error e => (0, 0, e)
  | .ok (v, k) => ((v : Int), ((p + k : Nat) : Int), 0)
/-- the same behind i groups, of which the value is acc. -/
def vrest (bs : List UInt8) (p i acc : Nat) : Int × Int × Int :=
  match vt i (bs.drop (p + i)) with
  | .error e => (0, 0, e)
  | .ok (v, k) => (((acc + v * 128 ^ i : Nat) : Int), ((p + i + k : Nat) : Int), 0)
theorem vrest_zero (bs : List UInt8) (p : Nat) : vrest bs p 0 0 = vres bs p := by
  unfold vrest vres
  simp
theorem vrest_nil {bs : List UInt8} {p i acc : Nat} (h : bs.length ≤ p + i) : vrest bs p i acc = (0, 0, 28) := by
  unfold vrest
  rw [List.drop_of_length_le h, vt_nil]
theorem drop_cons {bs : List UInt8} {k : Nat} (h : k < bs.length) : bs.drop k = bs[k] :: bs.drop (k + 1) := List.drop_eq_getElem_cons h
theorem vrest_over {bs : List UInt8} {p i acc : Nat} (h : p + i < bs.length) (h9 : i = 9) (hc : 1 < bs[p + i].toNat) : vrest bs p i acc = (0, 0, 9) := by
  unfold vrest
  rw [drop_cons h, vt_over h9 hc]
theorem vrest_corrupt {bs : List UInt8} {p i acc : Nat} (h : p + i < bs.length) (h0 : 0 < i) (hc : bs[p + i].toNat = 0) : vrest bs p i acc = (0, 0, 27) := by
  unfold vrest
  rw [drop_cons h, vt_zero h0 hc]
theorem vrest_last {bs : List UInt8} {p i acc : Nat} (h : p + i < bs.length) (h9 : ¬ (i = 9 ∧ 1 < bs[p + i].toNat)) (h0 : ¬ (bs[p + i].toNat = 0 ∧ 0 < i)) (hc : bs[p + i].toNat < 128) :
    vrest bs p i acc = (((acc + bs[p + i].toNat * 128 ^ i : Nat) : Int), ((p + i + 1 : Nat) : Int), 0) := by
  unfold vrest
  rw [drop_cons h, vt_last h9 h0 hc]
theorem vrest_more {bs : List UInt8} {p i acc : Nat} (h : p + i < bs.length) (h9 : ¬ (i = 9 ∧ 1 < bs[p + i].toNat)) (hc : ¬ bs[p + i].toNat < 128) :
    vrest bs p i acc = vrest bs p (i + 1) (acc + (bs[p + i].toNat - 128) * 128 ^ i) := by
  unfold vrest
  rw [drop_cons h, vt_more h9 hc, ← Nat.add_assoc]
  cases vt (i + 1) (bs.drop (p + i + 1)) with
  | error e => rfl
  | ok q =>
    obtain ⟨v, k⟩ := q
    simp only [Prod.mk.injEq, Int.natCast_inj, and_true]
    refine ⟨?_, by omega⟩
    rw [Nat.add_mul, Nat.pow_succ, Nat.add_assoc]
    congr 2
    rw [Nat.mul_comm 128 v, Nat.mul_assoc, Nat.mul_comm 128]
/-- a group of seven bits set behind the lower ones. -/
theorem group_or (acc c i : Nat) (hi : i ≤ 9) (ha : acc < 128 ^ i) (hc : c < 256) (h9 : ¬ (i = 9 ∧ 1 < c)) :
    bits .or .u64 (acc : Int) (IntKind.u64.wrap (IntKind.u64.wrap (bits .and .u8 (c : Int) 127) * 2 ^ (7 * i))) = ((acc + c % 128 * 128 ^ i : Nat) : Int) := by
  have e1 : bits .and .u8 (c : Int) 127 = ((c % 128 : Nat) : Int) := by
    have := u8_and_nat c 127 hc (by decide)
    rw [show c &&& 127 = c % 128 from Nat.and_two_pow_sub_one_eq_mod c 7] at this
    exact this
  have e0 : IntKind.u64.wrap ((c % 128 : Nat) : Int) = ((c % 128 : Nat) : Int) := by rw [IntKind.wrap_u64]; omega
  have hp : (2 : Nat) ^ (7 * i) = 128 ^ i := by rw [Nat.pow_mul]
  have hb : c % 128 * 128 ^ i < 18446744073709551616 := by
    rcases Nat.lt_or_ge i 9 with g | g
    · have h1 : 128 ^ i ≤ 128 ^ 8 := Nat.pow_le_pow_right (by decide) (by omega)
      have h2 : c % 128 * 128 ^ i ≤ 127 * 128 ^ 8 := Nat.mul_le_mul (by omega) h1
      omega
    · obtain rfl : i = 9 := by omega
      have : c ≤ 1 := by omega
      have : c % 128 ≤ 1 := by omega
      have h2 : c % 128 * 128 ^ 9 ≤ 1 * 128 ^ 9 := Nat.mul_le_mul this (Nat.le_refl _)
      omega
  have e2 : IntKind.u64.wrap (((c % 128 : Nat) : Int) * 2 ^ (7 * i)) = ((c % 128 * 128 ^ i : Nat) : Int) := by
    rw [show (2 : Int) ^ (7 * i) = ((128 ^ i : Nat) : Int) from by rw [← hp, Int.natCast_pow]; rfl, ← Int.natCast_mul, IntKind.wrap_u64]
    omega
  have ha2 : acc < 18446744073709551616 := Nat.lt_of_lt_of_le ha (Nat.le_trans (Nat.pow_le_pow_right (by decide) hi) (by decide))
  rw [e1, e0, e2, u64_or_nat _ _ ha2 hb, Nat.or_comm, nat_join (7 * i) _ _ (by rw [hp]; exact Nat.mul_mod_left _ _) (by rw [hp]; exact ha), Nat.add_comm]
theorem group_lt {acc c i : Nat} (ha : acc < 128 ^ i) : acc + c % 128 * 128 ^ i < 128 ^ (i + 1) := by
  have h2 : c % 128 * 128 ^ i ≤ 127 * 128 ^ i := Nat.mul_le_mul (by omega) (Nat.le_refl _)
  rw [Nat.pow_succ]
  omega
def RetV (r : Int × Int × Int) (w : World) (e : Ending) (w' : World) : Prop := e = .returned (.tuple #[.int .u64 r.1, .int .i64 r.2.1, .int .i64 r.2.2]) ∧ w = w'

theorem retv_last {R : Int × Int × Int} {acc d p k : Nat} {X : Int} (w : World) (h : R = (((acc + d * 128 ^ k : Nat) : Int), ((p + k + 1 : Nat) : Int), 0)) (ho : X = ((acc + d % 128 * 128 ^ k : Nat) : Int)) (hm : d % 128 = d) :
    RetV R w (.returned (.tuple #[.int .u64 X, .int .i64 ((p : Int) + (k : Int) + 1), .int .i64 0])) w := by
  rw [hm] at ho
  subst h ho
  exact ⟨rfl, rfl⟩

set_option maxRecDepth 100000 in
set_option maxHeartbeats 2000000 in
theorem varint_any (bs : List UInt8) (p n c : Nat) (A : Option Addr) (w : World) (hs : Sl w 1 A n (byts bs)) (hp : p ≤ n) (hn : n ≤ 100000000000) :
    Calls Try.prog 87 #[.slice A n c, .int .i64 (p : Int)] w (RetV (vres bs p) w) := by
  have LN : Hid (bs.length = n) := by show _ = _; simpa [byts_len] using hs.1
  have HV := Lib.hid (vrest_zero bs p)
  have HS := Lib.hid hs
  generalize vres bs p = R at *
  clear hs
  go_enter Try.func87, Try.ntmps87
  go_wp2_with fail
  go_loop [1, 7, 10] (fun a x i => ∃ k acc : Nat, k ≤ 9 ∧ i = .int .i64 k ∧ a = .int .i64 ((p + k : Nat) : Int) ∧ x = .int .u64 (acc : Int) ∧ Hid (acc < 128 ^ k) ∧ Hid (vrest bs p k acc = R)) (fun _ _ i => 10 - (intOf i).toNat)
  case atStart => exact ⟨0, 0, by omega, rfl, by simp, rfl, by show 0 < _; decide, HV⟩
  case round =>
    obtain ⟨k, acc, hk, rfl, rfl, rfl, HA, HR⟩ := hrel
    have hk10 : k < 10 := by omega
    by_cases hlt : p + k < n
    · have kl : p + k < bs.length := by have := LN.out; omega
      obtain ⟨b, o, rfl, hc⟩ := HS.out.open_ (by omega)
      have g := hc (p + k) _ (byts_at kl)
      have hlti : ((p + k : Nat) : Int) < (n : Int) := by omega
      have h0i : (0 : Int) ≤ ((p + k : Nat) : Int) := by omega
      have HC9 := Lib.hid (fun h9 hc => vrest_over (acc := acc) kl h9 hc)
      have HC0 := Lib.hid (fun h0 hc => vrest_corrupt (acc := acc) kl h0 hc)
      have HCL := Lib.hid (fun h9 h0 hc => vrest_last (acc := acc) kl h9 h0 hc)
      have HCM := Lib.hid (fun h9 hc => vrest_more (acc := acc) kl h9 hc)
      have hd := toNat_lt bs[p + k]
      clear hc
      generalize bs[p + k].toNat = d at *
      by_cases h9 : k = 9 ∧ 1 < d
      · have HR2 : Hid (R = (0, 0, 9)) := HR.out.symm.trans (HC9.out h9.1 h9.2)
        obtain ⟨rfl, hd1⟩ := h9
        clear HC9 HC0 HCL HCM HR HA
        go_wp2_with fail
        go_ret3
        exact ⟨by rw [HR2.out]; rfl, rfl⟩
      · have t9 : ((k : Int) == 9) = false ∨ (k = 9 ∧ ¬ 1 < d) := by
          by_cases e : k = 9
          · exact .inr ⟨e, fun h => h9 ⟨e, h⟩⟩
          · exact .inl (by simp; omega)
        have HO := Lib.hid (group_or acc d k hk HA.out hd h9)
        have HG := Lib.hid (group_lt (c := d) HA.out)
        by_cases hm : d < 128
        · by_cases h0 : d = 0 ∧ 0 < k
          · have HR2 : Hid (R = (0, 0, 27)) := HR.out.symm.trans (HC0.out h0.2 h0.1)
            have td : ((d : Int) == 0) = true := by simp; omega
            have hk0 : 0 < k := h0.2
            have hd1 : d < 2 := by omega
            clear HC9 HC0 HCL HCM HR HA HO HG h0 h9
            rcases t9 with t9 | ⟨e9, _⟩
            · go_wp2_with fail
              go_ret3
              exact ⟨by rw [HR2.out]; rfl, rfl⟩
            · have t9 : ((k : Int) == 9) = true := by simp; omega
              clear e9
              go_wp2_with fail
              go_ret3
              exact ⟨by rw [HR2.out]; rfl, rfl⟩
          · have HR2 := Lib.hid (HR.out.symm.trans (HCL.out h9 h0 hm))
            have HM : Hid (d % 128 = d) := Nat.mod_eq_of_lt hm
            clear HC9 HC0 HCL HCM HR HA HG h9
            rcases t9 with t9 | ⟨e9, hd1⟩
            · by_cases e : d = 0
              · have td : ((d : Int) == 0) = true := by simp; omega
                have hk0 : k < 1 := by omega
                clear e h0
                go_wp2_with fail
                go_ret3
                exact retv_last _ HR2.out HO.out HM.out
              · have td : ((d : Int) == 0) = false := by simp; omega
                clear e h0
                go_wp2_with fail
                go_ret3
                exact retv_last _ HR2.out HO.out HM.out
            · have t9 : ((k : Int) == 9) = true := by simp; omega
              have td : ((d : Int) == 0) = false := by simp; omega
              clear e9 h0
              go_wp2_with fail
              go_ret3
              exact retv_last _ HR2.out HO.out HM.out
        · have HR2 := Lib.hid (HR.out.symm.trans (HCM.out h9 hm))
          have HM : Hid (d % 128 = d - 128) := by show _ = _; omega
          have hk9 : k < 9 := by omega
          have t9' : ((k : Int) == 9) = false := by simp; omega
          clear HC9 HC0 HCL HCM HR HA h9 t9
          go_wp2_with fail
          go_round
          case rel => exact ⟨k + 1, acc + d % 128 * 128 ^ k, by omega, by go_num, by go_num, by rw [HO.out], HG, by rw [HM.out]; exact HR2.out.symm⟩
          case measure => simp [intOf]; omega
    · have HR2 : Hid (R = (0, 0, 28)) := by
        show _ = _
        rw [← HR.out]
        exact vrest_nil (by have := LN.out; omega)
      have t1 : decide ((n : Int) ≤ ((p + k : Nat) : Int)) = true := by simp; omega
      go_wp2_with fail
      go_ret3
      exact ⟨by rw [HR2.out]; rfl, rfl⟩
end Go.Proofs.Ythpmngdpgniehaa.Wr
