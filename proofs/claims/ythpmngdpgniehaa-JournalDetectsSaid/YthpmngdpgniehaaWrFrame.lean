/-
  The plain law of frames, with no program in sight: eight bytes of a number, a frame, the next frame of a byte string; a frame with a changed byte is refused. No conditions.
-/
import Derived.Test.YthpmngdpgniehaaWrPlain
import Derived.Test.YthpmngdpgniehaaDgPlain
namespace Go.Proofs.Ythpmngdpgniehaa.Wr
open Go

def bigG : Nat → Nat → List UInt8
  | 0, _ => []
  | k + 1, n => UInt8.ofNat (n / 256 ^ k % 256) :: bigG k n
/-- a number as eight bytes, the most significant first. -/
def big (n : Nat) : List UInt8 := bigG 8 n
def unbigG (a : Nat) (l : List UInt8) : Nat := l.foldl (fun s c => s * 256 + c.toNat) a
def unbig (l : List UInt8) : Nat := unbigG 0 l
theorem bigG_len (k n : Nat) : (bigG k n).length = k := by
  induction k with
  | zero => rfl
  | succ k ih => rw [bigG, List.length_cons, ih]
theorem big_len (n : Nat) : (big n).length = 8 := bigG_len 8 n
theorem unbigG_cons (a : Nat) (c : UInt8) (l : List UInt8) : unbigG a (c :: l) = unbigG (a * 256 + c.toNat) l := rfl
theorem unbigG_snoc (a : Nat) (l : List UInt8) (c : UInt8) : unbigG a (l ++ [c]) = unbigG a l * 256 + c.toNat := by
  unfold unbigG
  rw [List.foldl_append]
  rfl
theorem unbigG_eq : ∀ (l : List UInt8) (a : Nat), unbigG a l = a * 256 ^ l.length + unbigG 0 l
  | [], a => by simp [unbigG]
  | c :: l, a => by
    rw [unbigG_cons, unbigG_cons, unbigG_eq l, unbigG_eq l (0 * 256 + c.toNat), List.length_cons, Nat.pow_succ, Nat.add_mul, Nat.mul_assoc, Nat.mul_comm 256]
    simp only [Nat.zero_mul, Nat.zero_add]
    omega
theorem unbigG_lt : ∀ (l : List UInt8), unbigG 0 l < 256 ^ l.length
  | [] => by simp [unbigG]
  | c :: l => by
    have := unbigG_lt l
    have h := toNat_lt c
    rw [unbigG_cons, unbigG_eq l, List.length_cons, Nat.pow_succ, Nat.zero_mul, Nat.zero_add]
    have h2 : c.toNat * 256 ^ l.length ≤ 255 * 256 ^ l.length := Nat.mul_le_mul_right _ (by omega)
    omega
theorem unbig_lt {l : List UInt8} (h : l.length = 8) : unbig l < 18446744073709551616 := by
  have := unbigG_lt l
  rw [h] at this
  exact this
theorem bigG_unbigG : ∀ (l : List UInt8) (a : Nat), bigG l.length (unbigG a l) = l
  | [], _ => rfl
  | c :: l, a => by
    have h := toNat_lt c
    have hp : 0 < 256 ^ l.length := Nat.pow_pos (by decide)
    rw [List.length_cons, bigG, unbigG_cons, bigG_unbigG l, unbigG_eq, Nat.mul_comm, Nat.mul_add_div hp, Nat.div_eq_of_lt (unbigG_lt l), Nat.add_zero, show (a * 256 + c.toNat) % 256 = c.toNat from by omega, ofNat_toNat]
theorem big_unbig {l : List UInt8} (h : l.length = 8) : big (unbig l) = l := by
  have := bigG_unbigG l 0
  rw [h] at this
  exact this
theorem unbigG_bigG : ∀ (k n a : Nat), unbigG a (bigG k n) = a * 256 ^ k + n % 256 ^ k
  | 0, n, a => by simp [bigG, unbigG, Nat.mod_one]
  | k + 1, n, a => by
    rw [bigG, unbigG_cons, unbigG_bigG k, toNat_small (by omega), Nat.add_mul, Nat.mul_assoc, ← Nat.pow_succ', Nat.add_assoc]
    congr 1
    rw [Nat.pow_succ, Nat.mod_mul, Nat.add_comm, Nat.mul_comm (256 ^ k)]
theorem unbig_big {n : Nat} (h : n < 18446744073709551616) : unbig (big n) = n := by
  unfold unbig big
  rw [unbigG_bigG, Nat.zero_mul, Nat.zero_add]
  exact Nat.mod_eq_of_lt h

/-- the digest of bytes, as a number. -/
def sumN (l : List UInt8) : Nat := (Dg.sumB l).toNat
theorem sumN_lt (l : List UInt8) : sumN l < 18446744073709551616 := (Dg.sumB l).isLt
theorem sumI_eq (l : List UInt8) : Dg.sumI l = (sumN l : Int) := rfl

/-! ### frames -/
def frame (b : List UInt8) : List UInt8 := uv b.length ++ (b ++ big (sumN b))
theorem frame_len (b : List UInt8) : (frame b).length = (uv b.length).length + b.length + 8 := by
  unfold frame
  rw [List.length_append, List.length_append, big_len]
  omega
/-- what lies behind the varint of a frame: its contents and its offset's end, or an error. -/
def nextB (b : List UInt8) (fr n : Nat) : Except Int (List UInt8 × Nat) :=
  if b.length - fr < 8 ∨ b.length - fr - 8 < n then .error 28
  else if unbig ((b.drop (fr + n)).take 8) = sumN ((b.drop fr).take n) then .ok ((b.drop fr).take n, fr + n + 8)
  else .error 27
def nextN (b : List UInt8) (p : Nat) : Except Int (List UInt8 × Nat) :=
  match vt 0 (b.drop p) with
  | .error e => .error e
  | .ok (n, k) => nextB b (p + k) n
def next (b : List UInt8) (p : Int) : Except Int (List UInt8 × Nat) :=
  if p < 0 ∨ (b.length : Int) < p then .error 2 else nextN b p.toNat
theorem next_at {b : List UInt8} {p : Nat} (h : p ≤ b.length) : next b (p : Int) = nextN b p := by
  unfold next
  rw [if_neg (by omega), Int.toNat_natCast]
theorem nextN_err {b : List UInt8} {p : Nat} {e : Int} (h : vt 0 (b.drop p) = .error e) : nextN b p = .error e := by unfold nextN; rw [h]
theorem nextN_ok {b : List UInt8} {p n k : Nat} (h : vt 0 (b.drop p) = .ok (n, k)) : nextN b p = nextB b (p + k) n := by unfold nextN; rw [h]
theorem take_two (x y r : List UInt8) : (x ++ (y ++ r)).take (x ++ y).length = x ++ y := by
  rw [← List.append_assoc, List.take_append_of_le_length (Nat.le_refl _), List.take_length]
theorem drop_len (x r : List UInt8) {k : Nat} (h : k = x.length) : (x ++ r).drop k = r := by subst h; simp
theorem take_len (x r : List UInt8) {k : Nat} (h : k = x.length) : (x ++ r).take k = x := by subst h; simp
/-- a frame's varint, contents of the length that it tells, and eight bytes. -/
theorem nextN_parts {p b d r : List UInt8} (hb : b.length < 18446744073709551616) (hd : d.length = 8) :
    nextN (p ++ (uv b.length ++ (b ++ (d ++ r)))) p.length = if unbig d = sumN b then .ok (b, p.length + (uv b.length).length + b.length + 8) else .error 27 := by
  rw [nextN_ok (n := b.length) (k := (uv b.length).length) (by rw [drop_at]; exact vt_uv 0 _ _ (by omega) hb (by omega))]
  unfold nextB
  have e1 : (p ++ (uv b.length ++ (b ++ (d ++ r)))).drop (p.length + (uv b.length).length) = b ++ (d ++ r) := by
    rw [← List.append_assoc]
    exact drop_len _ _ (by simp)
  have e2 : (p ++ (uv b.length ++ (b ++ (d ++ r)))).drop (p.length + (uv b.length).length + b.length) = d ++ r := by
    rw [← List.append_assoc, ← List.append_assoc]
    exact drop_len _ _ (by simp; omega)
  have e3 : (p ++ (uv b.length ++ (b ++ (d ++ r)))).length = p.length + (uv b.length).length + b.length + 8 + r.length := by simp [hd]; omega
  rw [if_neg (by rw [e3]; omega), e1, e2, take_len _ _ rfl, take_len _ _ hd.symm]
theorem nextN_frame {p b r : List UInt8} (hb : b.length < 18446744073709551616) : nextN (p ++ (frame b ++ r)) p.length = .ok (b, p.length + (frame b).length) := by
  have h := nextN_parts (p := p) (b := b) (d := big (sumN b)) (r := r) hb (big_len _)
  rw [if_pos (unbig_big (sumN_lt b))] at h
  unfold frame
  rw [List.append_assoc, List.append_assoc, h]
  simp only [List.length_append, big_len, Nat.add_assoc]
theorem nextN_back {b x : List UInt8} {p m : Nat} (hp : p ≤ b.length) (h : nextN b p = .ok (x, m)) : m ≤ b.length ∧ p < m ∧ b.take m = b.take p ++ frame x ∧ x.length < 18446744073709551616 ∧ x.length ≤ b.length := by
  cases hv : vt 0 (b.drop p) with
  | error e => rw [nextN_err hv] at h; cases h
  | ok q =>
    obtain ⟨n, k⟩ := q
    rw [nextN_ok hv] at h
    unfold nextB at h
    split at h
    · cases h
    · rename_i h1
      split at h
      · rename_i h2
        obtain ⟨a1, a2, a3, _, a5⟩ := vt_bound _ 0 n k (by omega) hv
        rw [room_zero] at a3
        rw [List.length_drop] at a2
        injection h with h
        injection h with h3 h4
        have hl : ((b.drop (p + k)).take n).length = n := by rw [List.length_take, List.length_drop]; omega
        have h8 : ((b.drop (p + k + n)).take 8).length = 8 := by rw [List.length_take, List.length_drop]; omega
        refine ⟨by omega, by omega, ?_, by rw [← h3, hl]; exact a3, by rw [← h3, hl]; omega⟩
        rw [← h3, ← h4]
        unfold frame
        rw [hl, a5, ← h2, big_unbig h8, show p + k + n + 8 = p + (k + (n + 8)) from by omega, take_more b p, take_more (b.drop p) k, take_more ((b.drop p).drop k) n]
        simp only [List.drop_drop]
      · cases h
theorem nextN_fine {b x : List UInt8} {p m : Nat} (hp : p ≤ b.length) (h : nextN b p = .ok (x, m)) : m ≤ b.length ∧ p < m := ⟨(nextN_back hp h).1, (nextN_back hp h).2.1⟩
theorem nextN_errs {b : List UInt8} {p : Nat} {e : Int} (h : nextN b p = .error e) : e = 28 ∨ e = 9 ∨ e = 27 := by
  cases hv : vt 0 (b.drop p) with
  | error e' =>
    rw [nextN_err hv] at h
    injection h with h
    subst h
    exact vt_err _ _ _ hv
  | ok q =>
    obtain ⟨n, k⟩ := q
    rw [nextN_ok hv] at h
    unfold nextB at h
    split at h
    · injection h with h; omega
    · split at h
      · cases h
      · injection h with h; omega
theorem nextN_end (b : List UInt8) : nextN b b.length = .error 28 := nextN_err (by rw [List.drop_length]; exact vt_nil 0)

/-! ### a changed byte -/
theorem prime_inv : 1099511628211#64 * Dg.inv 1099511628211#64 5 = 1#64 := by decide +kernel
theorem step_inj_left {x y : BitVec 64} {c : UInt8} (h : Dg.sumStep x c = Dg.sumStep y c) : x = y := by
  unfold Dg.sumStep at h
  have h2 := congrArg (· * Dg.inv 1099511628211#64 5) h
  simp only [BitVec.mul_assoc, prime_inv, BitVec.mul_one] at h2
  have h3 := congrArg (· ^^^ BitVec.ofNat 64 c.toNat) h2
  simpa [BitVec.xor_assoc] using h3
theorem step_inj_right {x : BitVec 64} {c d : UInt8} (h : Dg.sumStep x c = Dg.sumStep x d) : c = d := by
  unfold Dg.sumStep at h
  have h2 := congrArg (· * Dg.inv 1099511628211#64 5) h
  simp only [BitVec.mul_assoc, prime_inv, BitVec.mul_one] at h2
  have h3 := congrArg (x ^^^ ·) h2
  simp only [← BitVec.xor_assoc, BitVec.xor_self, BitVec.zero_xor] at h3
  have h4 := congrArg BitVec.toNat h3
  simp only [BitVec.toNat_ofNat] at h4
  have hc := toNat_lt c
  have hd := toNat_lt d
  rw [Nat.mod_eq_of_lt (by omega), Nat.mod_eq_of_lt (by omega)] at h4
  exact UInt8.toNat_inj.1 h4
theorem from_inj (l : List UInt8) : ∀ {x y : BitVec 64}, Dg.sumFrom x l = Dg.sumFrom y l → x = y := by
  induction l with
  | nil => intro x y h; exact h
  | cons c l ih => intro x y h; exact step_inj_left (ih h)
theorem sum_changed (a : List UInt8) {c d : UInt8} (r : List UInt8) (h : c ≠ d) : sumN (a ++ c :: r) ≠ sumN (a ++ d :: r) := by
  intro e
  have e2 : Dg.sumB (a ++ c :: r) = Dg.sumB (a ++ d :: r) := BitVec.eq_of_toNat_eq e
  rw [Dg.sumB_append, Dg.sumB_append] at e2
  exact h (step_inj_right (from_inj r e2))
theorem split_at {l : List UInt8} {j : Nat} (h : j < l.length) : l = l.take j ++ l[j] :: l.drop (j + 1) := by
  rw [← List.drop_eq_getElem_cons h, List.take_append_drop]
theorem set_split {l : List UInt8} {j : Nat} {c : UInt8} (h : j < l.length) : l.set j c = l.take j ++ c :: l.drop (j + 1) := List.set_eq_take_append_cons_drop (l := l) (i := j) (a := c) |>.trans (if_pos h)
theorem sum_set {l : List UInt8} {j : Nat} {c : UInt8} (h : j < l.length) (hc : l[j] ≠ c) : sumN (l.set j c) ≠ sumN l := by
  rw [set_split h]
  conv => rhs; rw [split_at h]
  exact sum_changed _ _ (Ne.symm hc)
theorem unbig_set {l : List UInt8} {j : Nat} {c : UInt8} (h : j < l.length) (hl : l.length = 8) (hc : l[j] ≠ c) : unbig (l.set j c) ≠ unbig l := by
  intro e
  have h2 := big_unbig (l := l.set j c) (by simpa using hl)
  rw [e, big_unbig hl] at h2
  have h3 := congrArg (·[j]?) h2
  simp [h] at h3
  exact hc h3
/-- the frame of b with the byte number j of its contents and digest changed to c. -/
theorem spoilt {b : List UInt8} (hb : b.length < 18446744073709551616) {j : Nat} (hj : j < b.length + 8) {c : UInt8} :
    next ((frame b).set ((uv b.length).length + j) c) 0 = if (frame b)[(uv b.length).length + j]? = some c then .ok (b, (frame b).length) else .error 27 := by
  have h0 : next ((frame b).set ((uv b.length).length + j) c) 0 = nextN ((frame b).set ((uv b.length).length + j) c) 0 := next_at (p := 0) (Nat.zero_le _)
  have hL := frame_len b
  by_cases hs : (frame b)[(uv b.length).length + j]? = some c
  · have e : (frame b).set ((uv b.length).length + j) c = frame b := by
      apply List.ext_getElem?
      intro i
      rw [List.getElem?_set]
      split
      · rename_i h
        subst h
        rw [if_pos (by omega), hs]
      · rfl
    rw [h0, e, if_pos hs]
    have := nextN_frame (p := []) (r := []) hb
    simpa using this
  · rw [h0, if_neg hs]
    have e1 : (frame b).set ((uv b.length).length + j) c = uv b.length ++ (b ++ big (sumN b)).set j c := by
      unfold frame
      rw [List.set_append_right _ _ (by omega), Nat.add_sub_cancel_left]
    have e0 : (frame b)[(uv b.length).length + j]? = (b ++ big (sumN b))[j]? := by
      unfold frame
      rw [List.getElem?_append_right (by omega), Nat.add_sub_cancel_left]
    rw [e0] at hs
    rcases Nat.lt_or_ge j b.length with hlt | hge
    · rw [List.getElem?_append_left hlt, List.getElem?_eq_getElem hlt] at hs
      have hc : b[j] ≠ c := fun e => hs (by rw [e])
      have h2 := nextN_parts (p := []) (b := b.set j c) (d := big (sumN b)) (r := []) (by simpa using hb) (big_len _)
      rw [if_neg (by rw [unbig_big (sumN_lt b)]; exact Ne.symm (sum_set hlt hc))] at h2
      rw [e1, List.set_append_left _ _ hlt]
      simpa using h2
    · have hl : j - b.length < (big (sumN b)).length := by rw [big_len]; omega
      rw [List.getElem?_append_right hge, List.getElem?_eq_getElem hl] at hs
      have hc : (big (sumN b))[j - b.length] ≠ c := fun e => hs (by rw [e])
      have h2 := nextN_parts (p := []) (b := b) (d := (big (sumN b)).set (j - b.length) c) (r := []) hb (by simp [big_len])
      rw [if_neg (by
        have := unbig_set hl (big_len _) hc
        rw [unbig_big (sumN_lt b)] at this
        exact this)] at h2
      rw [e1, List.set_append_right _ _ hge]
      simpa using h2
end Go.Proofs.Ythpmngdpgniehaa.Wr
