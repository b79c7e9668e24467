/-
  Plain arithmetic of 64-bit digests, with no program in sight: the steps of Sum, Mix and Unmix as bit vectors, and how the walk writes them as integers; Mix and Unmix are inverse to each other. No conditions.
-/
import Derived.WalkKit
namespace Go.Proofs.Ythpmngdpgniehaa.Dg
open Go

/-- n is a uint64. -/
def U64 (n : Int) : Prop := 0 ≤ n ∧ n < 18446744073709551616
/-- an integer as 64 bits. -/
def ofI (n : Int) : BitVec 64 := BitVec.ofInt 64 n
/-- 64 bits as the integer that a uint64 holds. -/
def toI (x : BitVec 64) : Int := (x.toNat : Int)

theorem toI_u64 (x : BitVec 64) : U64 (toI x) := by
  have := x.isLt
  unfold U64 toI
  omega
theorem ofI_toI (x : BitVec 64) : ofI (toI x) = x := by
  simp [ofI, toI]
theorem toI_ofI {n : Int} (h : U64 n) : toI (ofI n) = n := by
  obtain ⟨h1, h2⟩ := h
  unfold toI ofI
  rw [BitVec.toNat_ofInt]
  omega
theorem toI_inj {x y : BitVec 64} (h : toI x = toI y) : x = y := by
  rw [← ofI_toI x, h, ofI_toI]

theorem wrap_u64 (n : Int) : IntKind.u64.wrap n = toI (ofI n) := by
  unfold toI ofI
  rw [IntKind.wrap_u64, BitVec.toNat_ofInt]
  omega
theorem wrap_in {n : Int} (h : U64 n) : IntKind.u64.wrap n = n := by
  rw [wrap_u64, toI_ofI h]
theorem xor_u64 (a b : Int) : bits .xor .u64 a b = toI (ofI a ^^^ ofI b) := by
  show IntKind.u64.wrap ((BitVec.ofInt 64 a ^^^ BitVec.ofInt 64 b).toNat : Int) = _
  exact wrap_in (toI_u64 (BitVec.ofInt 64 a ^^^ BitVec.ofInt 64 b))
theorem and_u64 (a b : Int) : bits .and .u64 a b = toI (ofI a &&& ofI b) := by
  show IntKind.u64.wrap ((BitVec.ofInt 64 a &&& BitVec.ofInt 64 b).toNat : Int) = _
  exact wrap_in (toI_u64 (BitVec.ofInt 64 a &&& BitVec.ofInt 64 b))
theorem or_u64 (a b : Int) : bits .or .u64 a b = toI (ofI a ||| ofI b) := by
  show IntKind.u64.wrap ((BitVec.ofInt 64 a ||| BitVec.ofInt 64 b).toNat : Int) = _
  exact wrap_in (toI_u64 (BitVec.ofInt 64 a ||| BitVec.ofInt 64 b))
theorem ofI_mul (a b : Int) : ofI (a * b) = ofI a * ofI b := BitVec.ofInt_mul a b
theorem ofI_add (a b : Int) : ofI (a + b) = ofI a + ofI b := BitVec.ofInt_add a b
theorem shr_u64 {a : Int} (h : U64 a) (s : Nat) : a / (2 : Int) ^ s = toI (ofI a >>> s) := by
  have e := toI_ofI h
  unfold toI at e ⊢
  rw [BitVec.toNat_ushiftRight, Nat.shiftRight_eq_div_pow, Int.natCast_ediv, e]
  simp

/-! ### shifts and their inverses -/
def xs (s : Nat) (x : BitVec 64) : BitVec 64 := x ^^^ (x >>> s)
def un (s : Nat) (y : BitVec 64) : Nat → BitVec 64
  | 0 => y
  | k + 1 => y ^^^ (un s y k >>> s)
theorem un_xs_any (s : Nat) (x : BitVec 64) (k : Nat) : un s (xs s x) k = x ^^^ (x >>> (s * (k + 1))) := by
  induction k with
  | zero => simp [un, xs]
  | succ k ih =>
    rw [un, ih, xs, BitVec.ushiftRight_xor_distrib, ← BitVec.shiftRight_add]
    rw [show s * (k + 1) + s = s * (k + 1 + 1) from (Nat.mul_succ s (k + 1)).symm]
    rw [BitVec.xor_assoc, ← BitVec.xor_assoc (x >>> s), BitVec.xor_self, BitVec.zero_xor]
theorem xs_un_any (s : Nat) (y : BitVec 64) (k : Nat) : xs s (un s y k) = y ^^^ (y >>> (s * (k + 1))) := by
  induction k with
  | zero => simp [un, xs]
  | succ k ih =>
    rw [xs, un, BitVec.ushiftRight_xor_distrib]
    have h : un s y k >>> s ^^^ (un s y k >>> s) >>> s = (xs s (un s y k)) >>> s := by
      rw [xs, BitVec.ushiftRight_xor_distrib]
    rw [BitVec.xor_assoc, ← BitVec.xor_assoc (un s y k >>> s), BitVec.xor_comm (un s y k >>> s) (y >>> s), BitVec.xor_assoc (y >>> s), h, ih, BitVec.ushiftRight_xor_distrib, ← BitVec.xor_assoc (y >>> s), BitVec.xor_self, BitVec.zero_xor, ← BitVec.shiftRight_add]
    rw [show s * (k + 1) + s = s * (k + 1 + 1) from (Nat.mul_succ s (k + 1)).symm]
theorem shift_out (x : BitVec 64) {n : Nat} (h : 64 ≤ n) : x >>> n = 0#64 := by
  apply BitVec.eq_of_toNat_eq
  rw [BitVec.toNat_ushiftRight, Nat.shiftRight_eq_div_pow]
  have h1 : x.toNat < 2 ^ n := Nat.lt_of_lt_of_le x.isLt (Nat.pow_le_pow_right (by decide) h)
  rw [Nat.div_eq_of_lt h1]
  rfl
theorem un_xs {s k : Nat} (h : 64 ≤ s * (k + 1)) (x : BitVec 64) : un s (xs s x) k = x := by
  rw [un_xs_any, shift_out x h, BitVec.xor_zero]
theorem xs_un {s k : Nat} (h : 64 ≤ s * (k + 1)) (x : BitVec 64) : xs s (un s x k) = x := by
  rw [xs_un_any, shift_out x h, BitVec.xor_zero]
/-- two counts of rounds, each of them enough, come to the same. -/
theorem un_un {s k m : Nat} (h : 64 ≤ s * (k + 1)) (g : 64 ≤ s * (m + 1)) (y : BitVec 64) : un s y k = un s y m := by
  have e := xs_un h y
  rw [← un_xs g (un s y k), e]

/-! ### factors and their inverses -/
def inv (m : BitVec 64) : Nat → BitVec 64
  | 0 => m
  | k + 1 => inv m k * (2#64 - m * inv m k)
def F1 : BitVec 64 := 13787848793156543929#64
def F2 : BitVec 64 := 10723151780598845931#64
theorem inv_F1 : F1 * inv F1 5 = 1#64 := by decide +kernel
theorem inv_F2 : F2 * inv F2 5 = 1#64 := by decide +kernel
theorem inv_F1' : inv F1 6 = inv F1 5 := by decide +kernel
theorem inv_F2' : inv F2 6 = inv F2 5 := by decide +kernel

/-! ### Mix and Unmix -/
def mixB (x : BitVec 64) : BitVec 64 := xs 31 (xs 27 (xs 30 x * F1) * F2)
def unmixB (x : BitVec 64) : BitVec 64 := un 30 (un 27 (un 31 x 2 * inv F2 5) 2 * inv F1 5) 2
theorem unmix_mixB (x : BitVec 64) : unmixB (mixB x) = x := by
  unfold unmixB mixB
  rw [un_xs (by decide), BitVec.mul_assoc, inv_F2, BitVec.mul_one, un_xs (by decide), BitVec.mul_assoc, inv_F1, BitVec.mul_one, un_xs (by decide)]
theorem mix_unmixB (x : BitVec 64) : mixB (unmixB x) = x := by
  unfold unmixB mixB
  rw [xs_un (by decide), BitVec.mul_assoc, BitVec.mul_comm (inv F1 5), inv_F1, BitVec.mul_one, xs_un (by decide), BitVec.mul_assoc, BitVec.mul_comm (inv F2 5), inv_F2, BitVec.mul_one, xs_un (by decide)]

/-- Mix, Unmix of a uint64 as integers. -/
def mixI (n : Int) : Int := toI (mixB (ofI n))
def unmixI (n : Int) : Int := toI (unmixB (ofI n))
theorem mixI_u64 (n : Int) : U64 (mixI n) := toI_u64 _
theorem unmixI_u64 (n : Int) : U64 (unmixI n) := toI_u64 _
theorem unmix_mixI {n : Int} (h : U64 n) : unmixI (mixI n) = n := by
  unfold unmixI mixI
  rw [ofI_toI, unmix_mixB, toI_ofI h]
theorem mix_unmixI {n : Int} (h : U64 n) : mixI (unmixI n) = n := by
  unfold unmixI mixI
  rw [ofI_toI, mix_unmixB, toI_ofI h]
theorem mixI_inj {a b : Int} (ha : U64 a) (hb : U64 b) : mixI a = mixI b ↔ a = b :=
  ⟨fun h => by rw [← unmix_mixI ha, h, unmix_mixI hb], fun h => by rw [h]⟩

/-! ### how the walk writes the steps -/
theorem ofI_sub (a b : Int) : ofI (a - b) = ofI a - ofI b := by
  have h := ofI_add (a - b) b
  rw [Int.sub_add_cancel] at h
  rw [h, BitVec.add_sub_cancel]
theorem xs_spell (x : BitVec 64) (s : Nat) (m : Int) (hm : m = (2 : Int) ^ s) : bits .xor .u64 (toI x) (toI x / m) = toI (xs s x) := by
  rw [hm, shr_u64 (toI_u64 x), xor_u64, ofI_toI, ofI_toI]
  rfl
theorem un_spell (y x : BitVec 64) (s : Nat) (m : Int) (hm : m = (2 : Int) ^ s) : bits .xor .u64 (toI y) (toI x / m) = toI (y ^^^ (x >>> s)) := by
  rw [hm, shr_u64 (toI_u64 x), xor_u64, ofI_toI, ofI_toI, ofI_toI]
theorem mul_spell (x y : BitVec 64) : IntKind.u64.wrap (toI x * toI y) = toI (x * y) := by
  rw [wrap_u64, ofI_mul, ofI_toI, ofI_toI]
theorem F1_spell : (13787848793156543929 : Int) = toI F1 := by decide +kernel
theorem F2_spell : (10723151780598845931 : Int) = toI F2 := by decide +kernel
theorem inv_spell (m a : BitVec 64) : IntKind.u64.wrap (toI a * IntKind.u64.wrap (2 - IntKind.u64.wrap (toI m * toI a))) = toI (a * (2#64 - m * a)) := by
  rw [mul_spell, wrap_u64 (2 - _), ofI_sub, mul_spell, ofI_toI]
  rfl
theorem mix_spell {n : Int} (hn : U64 n) :
    bits .xor .u64 (IntKind.u64.wrap (bits .xor .u64 (IntKind.u64.wrap (bits .xor .u64 n (n / 1073741824) * 13787848793156543929)) (IntKind.u64.wrap (bits .xor .u64 n (n / 1073741824) * 13787848793156543929) / 134217728) * 10723151780598845931))
      (IntKind.u64.wrap (bits .xor .u64 (IntKind.u64.wrap (bits .xor .u64 n (n / 1073741824) * 13787848793156543929)) (IntKind.u64.wrap (bits .xor .u64 n (n / 1073741824) * 13787848793156543929) / 134217728) * 10723151780598845931) / 2147483648) = mixI n := by
  have e := toI_ofI hn
  unfold mixI
  generalize ofI n = x at e ⊢
  subst e
  rw [F1_spell, F2_spell, xs_spell x 30 _ (by decide), mul_spell, xs_spell _ 27 _ (by decide), mul_spell, xs_spell _ 31 _ (by decide)]
  rfl

/-! ### Sum -/
def sumStep (x : BitVec 64) (c : UInt8) : BitVec 64 := (x ^^^ BitVec.ofNat 64 c.toNat) * 1099511628211#64
def sumFrom (x : BitVec 64) (l : List UInt8) : BitVec 64 := l.foldl sumStep x
def sumB (l : List UInt8) : BitVec 64 := sumFrom 14695981039346656037#64 l
def sumI (l : List UInt8) : Int := toI (sumB l)
theorem sumI_u64 (l : List UInt8) : U64 (sumI l) := toI_u64 _
theorem sumB_append (a b : List UInt8) : sumB (a ++ b) = sumFrom (sumB a) b := by
  unfold sumB sumFrom
  rw [List.foldl_append]
theorem sumB_snoc (a : List UInt8) (c : UInt8) : sumB (a ++ [c]) = sumStep (sumB a) c := by
  rw [sumB_append]
  rfl
/-- one step, as the walk writes it. -/
theorem step_spell (x : BitVec 64) (c : UInt8) : IntKind.u64.wrap (bits .xor .u64 (toI x) (IntKind.u64.wrap (c.toNat : Int)) * 1099511628211) = toI (sumStep x c) := by
  rw [xor_u64, wrap_u64 (_ * _), ofI_mul, ofI_toI, ofI_toI, wrap_u64, ofI_toI]
  simp [ofI, sumStep]
/-- Keyed and Chain. -/
def keyedI (key : Int) (l : List UInt8) : Int := mixI (bits .xor .u64 (mixI key) (sumI l))
def chainI (prev : Int) (l : List UInt8) : Int := mixI (IntKind.u64.wrap (prev + sumI l))
theorem xor_is_u64 (a b : Int) : U64 (bits .xor .u64 a b) := by rw [xor_u64]; exact toI_u64 _
theorem wrap_is_u64 (a : Int) : U64 (IntKind.u64.wrap a) := by rw [wrap_u64]; exact toI_u64 _
theorem keyedI_u64 (k : Int) (l : List UInt8) : U64 (keyedI k l) := toI_u64 _
theorem chainI_u64 (k : Int) (l : List UInt8) : U64 (chainI k l) := toI_u64 _
theorem xor_left_inj {a b c : Int} (ha : U64 a) (hb : U64 b) : bits .xor .u64 a c = bits .xor .u64 b c ↔ a = b := by
  refine ⟨fun h => ?_, fun h => by rw [h]⟩
  rw [xor_u64, xor_u64] at h
  have h2 := toI_inj h
  have h3 : ofI a = ofI b := by
    have := congrArg (· ^^^ ofI c) h2
    simpa [BitVec.xor_assoc] using this
  rw [← toI_ofI ha, ← toI_ofI hb, h3]
theorem xor_right_inj {a b c : Int} (ha : U64 a) (hb : U64 b) : bits .xor .u64 c a = bits .xor .u64 c b ↔ a = b := by
  rw [xor_u64, xor_u64, BitVec.xor_comm (ofI c), BitVec.xor_comm (ofI c), ← xor_u64, ← xor_u64]
  exact xor_left_inj ha hb
theorem add_left_inj {a b c : Int} (ha : U64 a) (hb : U64 b) : IntKind.u64.wrap (a + c) = IntKind.u64.wrap (b + c) ↔ a = b := by
  obtain ⟨h1, h2⟩ := ha
  obtain ⟨h3, h4⟩ := hb
  rw [IntKind.wrap_u64, IntKind.wrap_u64]
  omega
theorem add_right_inj {a b c : Int} (ha : U64 a) (hb : U64 b) : IntKind.u64.wrap (c + a) = IntKind.u64.wrap (c + b) ↔ a = b := by
  rw [Int.add_comm c, Int.add_comm c]
  exact add_left_inj ha hb
theorem keyed_key {a b : Int} (ha : U64 a) (hb : U64 b) (l : List UInt8) : keyedI a l = keyedI b l ↔ a = b := by
  unfold keyedI
  rw [mixI_inj (xor_is_u64 _ _) (xor_is_u64 _ _), xor_left_inj (mixI_u64 _) (mixI_u64 _), mixI_inj ha hb]
theorem chain_key {a b : Int} (ha : U64 a) (hb : U64 b) (l : List UInt8) : chainI a l = chainI b l ↔ a = b := by
  unfold chainI
  rw [mixI_inj (wrap_is_u64 _) (wrap_is_u64 _), add_left_inj ha hb]
theorem keyed_text (k : Int) (l m : List UInt8) : keyedI k l = keyedI k m ↔ sumI l = sumI m := by
  unfold keyedI
  rw [mixI_inj (xor_is_u64 _ _) (xor_is_u64 _ _), xor_right_inj (sumI_u64 _) (sumI_u64 _)]
theorem chain_text (k : Int) (l m : List UInt8) : chainI k l = chainI k m ↔ sumI l = sumI m := by
  unfold chainI
  rw [mixI_inj (wrap_is_u64 _) (wrap_is_u64 _), add_right_inj (sumI_u64 _) (sumI_u64 _)]

end Go.Proofs.Ythpmngdpgniehaa.Dg
