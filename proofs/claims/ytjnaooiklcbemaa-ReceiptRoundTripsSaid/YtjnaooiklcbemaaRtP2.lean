/-
  More of the plain law of receipts: what is accepted under which key, and the examples' bytes. Conditions: numbers of their kinds.
-/
import Derived.Test.YtjnaooiklcbemaaRtW5
namespace Go.Proofs.Ytjnaooiklcbemaa.Rt
open Go Go.Proofs.Ytjnaooiklcbemaa.Wr Go.Proofs.Ytjnaooiklcbemaa.Dg

theorem part_sign (r : Rc) (n : Nat) : (r.withSign n).part = r.part := rfl
theorem signI_sign (key : Int) (r : Rc) (n : Nat) : (r.withSign n).signI key = r.signI key := rfl
theorem issued_sign (key : Int) (num game slip : ByteArray) (first price date : Int) : ((issued key num game slip first price date).sign : Int) = (bare num game slip first price date).signI key := by
  have := (signI_u64 key (bare num game slip first price date)).1
  show (((bare num game slip first price date).signI key).toNat : Int) = _
  omega
theorem issued_signI (k key : Int) (num game slip : ByteArray) (first price date : Int) : (issued key num game slip first price date).signI k = (bare num game slip first price date).signI k := by
  unfold issued
  exact signI_sign _ _ _
theorem ver_issued {key other : Int} (hk : U64 key) (ho : U64 other) (num game slip : ByteArray) (first price date : Int) : verI other (issued key num game slip first price date) = if key = other then 0 else 15 := by
  unfold verI
  rw [issued_sign, issued_signI]
  unfold Rc.signI
  have hi := keyed_key hk ho (bare num game slip first price date).part
  by_cases h : key = other
  · rw [if_pos h, if_pos (hi.2 h)]
  · rw [if_neg h, if_neg (fun g => h (hi.1 g))]
theorem xor_self_iff {a t : Int} (ha : U64 a) (ht : U64 t) : bits .xor .u64 a t = a ↔ t = 0 := by
  have h0 : U64 0 := by unfold U64; omega
  have e : bits .xor .u64 a 0 = a := by
    rw [xor_u64]
    have : ofI 0 = 0#64 := rfl
    rw [this, BitVec.xor_zero, toI_ofI ha]
  constructor
  · intro h
    have h2 : bits .xor .u64 a t = bits .xor .u64 a 0 := by rw [h, e]
    exact (xor_right_inj ht h0).1 h2
  · rintro rfl
    exact e
theorem ver_turn {key turn : Int} (ht : U64 turn) (num game slip : ByteArray) (first price date : Int) : verI key ((issued key num game slip first price date).withSign (bits .xor .u64 ((issued key num game slip first price date).sign : Int) turn).toNat) = if turn = 0 then 0 else 15 := by
  unfold verI
  rw [signI_sign, issued_signI]
  have hu := xor_is_u64 ((issued key num game slip first price date).sign : Int) turn
  have e : ((((issued key num game slip first price date).withSign (bits .xor .u64 ((issued key num game slip first price date).sign : Int) turn).toNat).sign : Nat) : Int) = bits .xor .u64 ((issued key num game slip first price date).sign : Int) turn := by
    show ((bits .xor .u64 ((issued key num game slip first price date).sign : Int) turn).toNat : Int) = _
    have := hu.1
    omega
  rw [e, issued_sign]
  have hi := xor_self_iff (signI_u64 key (bare num game slip first price date)) ht
  by_cases h : turn = 0
  · rw [if_pos h, if_pos (hi.2 h)]
  · rw [if_neg h, if_neg (fun g => h (hi.1 g))]
theorem issued_ok {key : Int} {num game slip : ByteArray} {first price date : Int} (h : (bare num game slip first price date).ok) : (issued key num game slip first price date).ok := by
  have := signI_u64 key (bare num game slip first price date)
  refine ⟨h.first, h.price, h.date, ?_⟩
  show ((bare num game slip first price date).signI key).toNat < _
  have h1 := this.1
  have h2 := this.2
  omega
theorem issued_lim {key : Int} {num game slip : ByteArray} {first price date : Int} (h : (bare num game slip first price date).lim) : (issued key num game slip first price date).lim := ⟨h.num, h.game, h.slip⟩
theorem withSign_ok {r : Rc} {n : Nat} (h : r.ok) (hn : n < 18446744073709551616) : (r.withSign n).ok := ⟨h.first, h.price, h.date, hn⟩
theorem withSign_lim {r : Rc} {n : Nat} (h : r.lim) : (r.withSign n).lim := ⟨h.num, h.game, h.slip⟩
theorem lim_of_few {r : Rc} (h : r.few) : r.lim := ⟨Nat.le_trans h.num (by omega), Nat.le_trans h.game (by omega), Nat.le_trans h.slip (by omega)⟩
theorem few_of_short {r : Rc} (h : isShort r = true) : r.few := by
  unfold isShort at h
  simp only [Bool.and_eq_true, decide_eq_true_iff] at h
  exact ⟨h.1, h.2.1, h.2.2⟩

/-! ### the examples -/
def zeros (n : Nat) : List UInt8 := List.replicate n 0
theorem none_enc : none_.enc = [0, 0, 0, 0, 0, 0, 0] := by
  have e1 : wText ([] : List UInt8) = [0] := by show uv 0 ++ [] = _; rw [uv_zero]; rfl
  have e2 : wInt 0 = [0] := uv_zero
  show [] ++ wText [] ++ wText [] ++ wText [] ++ wInt 0 ++ wInt 0 ++ wInt 0 ++ uv 0 = _
  rw [e1, e2, uv_zero]
  rfl
theorem none_short : none_.short := ⟨by show 0 ≤ 24; omega, by show 0 ≤ 24; omega, by show 0 ≤ 2000; omega⟩
theorem none_lim : none_.lim := ⟨by show 0 ≤ 100000; omega, by show 0 ≤ 100000; omega, by show 0 ≤ 100000; omega⟩
theorem dec_zeros : decErr [0, 0, 0, 0, 0, 0, 0] = 0 ∧ dec [0, 0, 0, 0, 0, 0, 0] = none_ := by
  rw [← none_enc]
  exact dec_enc none_short none_ok
theorem dec_zeros8 : decErr [0, 0, 0, 0, 0, 0, 0, 0] = 1 := by
  have := dec_more none_short none_ok 0
  rw [none_enc] at this
  exact this
theorem dec_nil : decErr [] = 28 := by rfl
end Go.Proofs.Ytjnaooiklcbemaa.Rt
