/-
  Plain facts on sixteen hexadecimal digits, with no program in sight: the digits of a number, the number of digits, and that each undoes the other. No conditions.
-/
import Derived.Test.YtkgpdfabkfbdpaaDoorDgPlain
namespace Go.Proofs.YtkgpdfabkfbdpaaDoor.Dg
open Go

/-- the digit of a number below 16. -/
def dig (d : Nat) : UInt8 := if d < 10 then UInt8.ofNat (48 + d) else UInt8.ofNat (87 + d)
/-- the last k digits of n. -/
def hexL : Nat → Nat → List UInt8
  | 0, _ => []
  | k + 1, n => hexL k (n / 16) ++ [dig (n % 16)]
theorem hexL_len (k n : Nat) : (hexL k n).length = k := by
  induction k generalizing n with
  | zero => rfl
  | succ k ih => rw [hexL, List.length_append, ih]; rfl
theorem div_pow (n k : Nat) : n / 16 / 16 ^ k = n / 16 ^ (k + 1) := by
  rw [Nat.div_div_eq_div_mul, Nat.pow_succ, Nat.mul_comm]
theorem hexL_cons (k n : Nat) : hexL (k + 1) n = dig (n / 16 ^ k % 16) :: hexL k n := by
  induction k generalizing n with
  | zero => simp [hexL]
  | succ k ih =>
    rw [hexL, ih, div_pow]
    rfl
theorem hexL_get (k n i : Nat) (h : i < k) : (hexL k n)[i]? = some (dig (n / 16 ^ (k - 1 - i) % 16)) := by
  induction k generalizing i with
  | zero => omega
  | succ k ih =>
    rw [hexL_cons]
    cases i with
    | zero => simp
    | succ i =>
      rw [List.getElem?_cons_succ, ih i (by omega)]
      rw [show k + 1 - 1 - (i + 1) = k - 1 - i from by omega]

/-- the value of a digit. -/
def pv (c : UInt8) : Option Nat := if 48 ≤ c.toNat ∧ c.toNat ≤ 57 then some (c.toNat - 48) else if 97 ≤ c.toNat ∧ c.toNat ≤ 102 then some (c.toNat - 87) else none
/-- the number whose digits stand behind x. -/
def parseL : List UInt8 → Nat → Option Nat
  | [], x => some x
  | c :: r, x => (pv c).bind fun d => parseL r (16 * x + d)
theorem parseL_snoc (l : List UInt8) (c : UInt8) (x : Nat) : parseL (l ++ [c]) x = (parseL l x).bind fun y => (pv c).map fun d => 16 * y + d := by
  induction l generalizing x with
  | nil => cases h : pv c <;> simp [parseL, h]
  | cons b r ih =>
    cases h : pv b with
    | none => simp [parseL, h]
    | some d => simp [parseL, h, ih]
theorem parseL_bad (l r : List UInt8) (c : UInt8) (x : Nat) (h : pv c = none) : parseL (l ++ c :: r) x = none := by
  induction l generalizing x with
  | nil => simp [parseL, h]
  | cons b l ih =>
    cases hb : pv b with
    | none => simp [parseL, hb]
    | some d => simp [parseL, hb, ih]
theorem pv_lt {c : UInt8} {d : Nat} (h : pv c = some d) : d < 16 := by
  unfold pv at h
  split at h
  · injection h with h; omega
  · split at h
    · injection h with h; omega
    · cases h
theorem pv_dig {d : Nat} (h : d < 16) : pv (dig d) = some d := by
  unfold dig
  split
  · have e : (UInt8.ofNat (48 + d)).toNat = 48 + d := by simp; omega
    unfold pv
    rw [e, if_pos ⟨by omega, by omega⟩]
    congr 1
    omega
  · have e : (UInt8.ofNat (87 + d)).toNat = 87 + d := by simp; omega
    unfold pv
    rw [e, if_neg (by omega), if_pos ⟨by omega, by omega⟩]
    congr 1
    omega
theorem dig_pv {c : UInt8} {d : Nat} (h : pv c = some d) : dig d = c := by
  have hc := c.toNat_lt
  unfold pv at h
  split at h
  · injection h with h
    unfold dig
    rw [if_pos (by omega)]
    apply UInt8.toNat_inj.1
    simp
    omega
  · split at h
    · injection h with h
      unfold dig
      rw [if_neg (by omega)]
      apply UInt8.toNat_inj.1
      simp
      omega
    · cases h
theorem parse_hexL (k n : Nat) : parseL (hexL k n) 0 = some (n % 16 ^ k) := by
  induction k generalizing n with
  | zero => simp [hexL, parseL, Nat.mod_one]
  | succ k ih =>
    rw [hexL, parseL_snoc, ih, pv_dig (Nat.mod_lt _ (by decide))]
    simp only [Option.bind_some, Option.map_some]
    congr 1
    rw [Nat.pow_succ, Nat.mul_comm (16 ^ k) 16, Nat.mod_mul]
    omega
theorem parseL_hex {l : List UInt8} {x : Nat} (h : parseL l 0 = some x) : hexL l.length x = l := by
  obtain ⟨r, rfl⟩ : ∃ r, l = r.reverse := ⟨l.reverse, by simp⟩
  induction r generalizing x with
  | nil => rfl
  | cons c r ih =>
    rw [List.reverse_cons, parseL_snoc] at h
    cases hy : parseL r.reverse 0 with
    | none => rw [hy] at h; cases h
    | some y =>
      cases hd : pv c with
      | none => rw [hy, hd] at h; cases h
      | some d =>
        rw [hy, hd] at h
        simp only [Option.bind_some, Option.map_some, Option.some.injEq] at h
        subst h
        have hl := pv_lt hd
        rw [List.reverse_cons, List.length_append, List.length_singleton, hexL, show (16 * y + d) / 16 = y from by omega, show (16 * y + d) % 16 = d from by omega, ih hy, dig_pv hd]
theorem parseL_lt {l : List UInt8} {x : Nat} (h : parseL l 0 = some x) : x < 16 ^ l.length := by
  have e := parse_hexL l.length x
  rw [parseL_hex h, h] at e
  injection e with e
  rw [e]
  exact Nat.mod_lt _ (Nat.pow_pos (by decide))

/-- what ParseHex answers. -/
def parseX (l : List UInt8) : Int := if l.length = 16 then ((parseL l 0).getD 0 : Nat) else 0
def parseE (l : List UInt8) : Int := if l.length = 16 ∧ (parseL l 0).isSome = true then 0 else 1
end Go.Proofs.YtkgpdfabkfbdpaaDoor.Dg
