/-
  The plain law of wire, with no program in sight: varints, zigzag codes, the state of a reader, frames. No conditions.
-/
import Derived.WalkKit
namespace Go.Proofs.Ythpmngdpgniehaa.Wr
open Go

/-! ### varints -/
/-- the groups of seven bits of a number, the least significant first. -/
def uv (n : Nat) : List UInt8 := if n < 128 then [UInt8.ofNat n] else UInt8.ofNat (n % 128 + 128) :: uv (n / 128)
termination_by n
theorem uv_small {n : Nat} (h : n < 128) : uv n = [UInt8.ofNat n] := by rw [uv, if_pos h]
theorem uv_big {n : Nat} (h : ¬ n < 128) : uv n = UInt8.ofNat (n % 128 + 128) :: uv (n / 128) := by rw [uv, if_neg h]
theorem toNat_small {n : Nat} (h : n < 256) : (UInt8.ofNat n).toNat = n := by
  rw [UInt8.toNat_ofNat']
  exact Nat.mod_eq_of_lt h
theorem ofNat_toNat (c : UInt8) : UInt8.ofNat c.toNat = c := by simp
theorem toNat_lt (c : UInt8) : c.toNat < 256 := c.toNat_lt
theorem uv_pos (n : Nat) : 0 < (uv n).length := by
  by_cases h : n < 128
  · rw [uv_small h]; simp
  · rw [uv_big h]; simp
theorem uv_len_le : ∀ (k n : Nat), n < 128 ^ k → 0 < k → (uv n).length ≤ k
  | 0, _, _, h => absurd h (by omega)
  | k + 1, n, hn, _ => by
    by_cases h : n < 128
    · rw [uv_small h]; simp
    · rw [uv_big h, List.length_cons]
      have hk : 0 < k := by
        rcases Nat.eq_zero_or_pos k with e | e
        · subst e; simp at hn; omega
        · exact e
      have := uv_len_le k (n / 128) (by rw [Nat.pow_succ] at hn; omega) hk
      omega
theorem uv_len64 {n : Nat} (h : n < 18446744073709551616) : (uv n).length ≤ 10 := uv_len_le 10 n (by omega) (by omega)

/-- the varint at the head of a list, from its group number i on: its value and its length, or an error. -/
def vt : Nat → List UInt8 → Except Int (Nat × Nat)
  | _, [] => .error 28
  | i, c :: l =>
    if i = 9 ∧ 1 < c.toNat then .error 9
    else if c.toNat < 128 then (if c.toNat = 0 ∧ 0 < i then .error 27 else .ok (c.toNat, 1))
    else match vt (i + 1) l with
      | .error e => .error e
      | .ok (v, k) => .ok (c.toNat - 128 + 128 * v, k + 1)
theorem vt_nil (i : Nat) : vt i [] = .error 28 := by rw [vt]
theorem vt_over {i : Nat} {c : UInt8} {l : List UInt8} (h : i = 9) (hc : 1 < c.toNat) : vt i (c :: l) = .error 9 := by rw [vt, if_pos ⟨h, hc⟩]
theorem vt_zero {i : Nat} {c : UInt8} {l : List UInt8} (h : 0 < i) (hc : c.toNat = 0) : vt i (c :: l) = .error 27 := by
  rw [vt, if_neg (by omega), if_pos (by omega), if_pos ⟨hc, h⟩]
theorem vt_last {i : Nat} {c : UInt8} {l : List UInt8} (h9 : ¬ (i = 9 ∧ 1 < c.toNat)) (h0 : ¬ (c.toNat = 0 ∧ 0 < i)) (hc : c.toNat < 128) : vt i (c :: l) = .ok (c.toNat, 1) := by
  rw [vt, if_neg h9, if_pos hc, if_neg h0]
theorem vt_more {i : Nat} {c : UInt8} {l : List UInt8} (h9 : ¬ (i = 9 ∧ 1 < c.toNat)) (hc : ¬ c.toNat < 128) : vt i (c :: l) = (match vt (i + 1) l with
      | .error e => .error e
      | .ok (v, k) => .ok (c.toNat - 128 + 128 * v, k + 1)) := by
  rw [vt, if_neg h9, if_neg hc]
/-- what is left of 64 bits from group i on. -/
def room (i : Nat) : Nat := 2 ^ (64 - 7 * i)
theorem room_succ {i : Nat} (h : i < 9) : room i = 128 * room (i + 1) := by
  unfold room
  rw [show (64 - 7 * i) = (64 - 7 * (i + 1)) + 7 from by omega, Nat.pow_add]
  omega
theorem room_nine : room 9 = 2 := rfl
theorem room_zero : room 0 = 18446744073709551616 := rfl
theorem room_ge {i : Nat} (h : i < 9) : 256 ≤ room i := by
  unfold room
  exact Nat.le_trans (show 256 ≤ 2 ^ 8 from by decide) (Nat.pow_le_pow_right (by decide) (by omega))
theorem vt_bound : ∀ (l : List UInt8) (i v k : Nat), i ≤ 9 → vt i l = .ok (v, k) → 1 ≤ k ∧ k ≤ l.length ∧ v < room i ∧ (0 < i → v ≠ 0) ∧ uv v = l.take k
  | [], i, v, k, _, h => by rw [vt_nil] at h; cases h
  | c :: l, i, v, k, hi, h => by
    by_cases h9 : i = 9 ∧ 1 < c.toNat
    · rw [vt_over h9.1 h9.2] at h; cases h
    · by_cases hc : c.toNat < 128
      · by_cases h0 : c.toNat = 0 ∧ 0 < i
        · rw [vt_zero h0.2 h0.1] at h; cases h
        · rw [vt_last h9 h0 hc] at h
          injection h with h
          injection h with h1 h2
          subst h1 h2
          refine ⟨by omega, by simp, ?_, by omega, by rw [uv_small hc]; simp⟩
          rcases Nat.lt_or_ge i 9 with g | g
          · have := room_ge g; omega
          · obtain rfl : i = 9 := by omega
            rw [room_nine]; omega
      · rw [vt_more h9 hc] at h
        cases hv : vt (i + 1) l with
        | error e => rw [hv] at h; cases h
        | ok p =>
          obtain ⟨v', k'⟩ := p
          rw [hv] at h
          injection h with h
          injection h with h1 h2
          subst h1 h2
          have hlt : i < 9 := by
            rcases Nat.lt_or_ge i 9 with g | g
            · exact g
            · exact absurd ⟨by omega, by omega⟩ h9
          obtain ⟨a, b, c', d, e⟩ := vt_bound l (i + 1) v' k' (by omega) hv
          have hr := room_succ hlt
          have h256 := toNat_lt c
          have hd := d (by omega)
          refine ⟨by omega, by simp; omega, by omega, by omega, ?_⟩
          rw [uv_big (by omega), show (c.toNat - 128 + 128 * v') / 128 = v' from by omega, e, show (c.toNat - 128 + 128 * v') % 128 + 128 = c.toNat from by omega, ofNat_toNat]
          simp
theorem vt_uv : ∀ (i n : Nat) (l : List UInt8), i ≤ 9 → n < room i → (0 < i → n ≠ 0) → vt i (uv n ++ l) = .ok (n, (uv n).length) := by
  intro i n
  induction n using Nat.strongRecOn generalizing i with
  | _ n ih =>
    intro l hi hn h0
    by_cases h : n < 128
    · have e : (UInt8.ofNat n).toNat = n := toNat_small (by omega)
      rw [uv_small h, List.singleton_append, vt_last (by rw [e]; rintro ⟨rfl, g⟩; rw [room_nine] at hn; omega) (by rw [e]; omega) (by omega), e]
      rfl
    · have hlt : i < 9 := by
        rcases Nat.lt_or_ge i 9 with g | g
        · exact g
        · obtain rfl : i = 9 := by omega
          rw [room_nine] at hn; omega
      have hr := room_succ hlt
      have e : (UInt8.ofNat (n % 128 + 128)).toNat = n % 128 + 128 := toNat_small (by omega)
      rw [uv_big h, List.cons_append, vt_more (by omega) (by omega), ih (n / 128) (by omega) (i + 1) l (by omega) (by omega) (by omega), e]
      simp only [List.length_cons]
      congr 2
      omega
/-- a varint of which the end lacks is too short. -/
theorem vt_cut : ∀ (i n k : Nat), i ≤ 9 → n < room i → k < (uv n).length → vt i ((uv n).take k) = .error 28 := by
  intro i n
  induction n using Nat.strongRecOn generalizing i with
  | _ n ih =>
    intro k hi hn hk
    cases k with
    | zero => simp [vt_nil]
    | succ k =>
      by_cases h : n < 128
      · rw [uv_small h] at hk; simp at hk
      · have hlt : i < 9 := by
          rcases Nat.lt_or_ge i 9 with g | g
          · exact g
          · obtain rfl : i = 9 := by omega
            rw [room_nine] at hn; omega
        have hr := room_succ hlt
        have e : (UInt8.ofNat (n % 128 + 128)).toNat = n % 128 + 128 := toNat_small (by omega)
        rw [uv_big h] at hk ⊢
        rw [List.take_succ_cons, vt_more (by omega) (by omega), ih (n / 128) (by omega) (i + 1) k (by omega) (by omega) (by simpa using hk)]
/-- bytes behind a varint do not matter. -/
theorem vt_append : ∀ (l : List UInt8) (i : Nat) (m : List UInt8) (p : Nat × Nat), vt i l = .ok p → vt i (l ++ m) = .ok p
  | [], i, m, p, h => by rw [vt_nil] at h; cases h
  | c :: l, i, m, p, h => by
    rw [List.cons_append]
    by_cases h9 : i = 9 ∧ 1 < c.toNat
    · rw [vt_over h9.1 h9.2] at h; cases h
    · by_cases hc : c.toNat < 128
      · by_cases h0 : c.toNat = 0 ∧ 0 < i
        · rw [vt_zero h0.2 h0.1] at h; cases h
        · rw [vt_last h9 h0 hc] at h ⊢
          exact h
      · rw [vt_more h9 hc] at h ⊢
        cases hv : vt (i + 1) l with
        | error e => rw [hv] at h; cases h
        | ok p' => rw [vt_append l (i + 1) m p' hv]; rw [hv] at h; exact h

/-! ### zigzag codes -/
def zig (x : Int) : Nat := if x < 0 then (2 * (-(x + 1)) + 1).toNat else (2 * x).toNat
def unzig (u : Nat) : Int := if u % 2 = 1 then -((u / 2 : Nat) : Int) - 1 else ((u / 2 : Nat) : Int)
theorem zig_lt {x : Int} (h1 : -9223372036854775808 ≤ x) (h2 : x ≤ 9223372036854775807) : zig x < 18446744073709551616 := by
  unfold zig
  split <;> omega
theorem unzig_zig (x : Int) : unzig (zig x) = x := by
  unfold unzig zig
  split <;> split <;> omega
theorem zig_unzig (u : Nat) : zig (unzig u) = u := by
  unfold unzig zig
  split <;> split <;> omega
theorem unzig_range {u : Nat} (h : u < 18446744073709551616) : -9223372036854775808 ≤ unzig u ∧ unzig u ≤ 9223372036854775807 := by
  unfold unzig
  split <;> omega
theorem unzig_zero : unzig 0 = 0 := rfl

/-! ### what is written -/
def wInt (x : Int) : List UInt8 := uv (zig x)
def wText (s : List UInt8) : List UInt8 := uv s.length ++ s
def wIntsL (l : List Int) : List UInt8 := l.flatMap wInt
def wInts (l : List Int) : List UInt8 := uv l.length ++ wIntsL l

/-! ### the state of a reader -/
structure RS where
  pos : Nat
  err : Int
def rU (bs : List UInt8) (s : RS) : Nat × RS :=
  if s.err = 0 then (match vt 0 (bs.drop s.pos) with
    | .error e => (0, ⟨s.pos, e⟩)
    | .ok (v, k) => (v, ⟨s.pos + k, 0⟩)) else (0, s)
def rI (bs : List UInt8) (s : RS) : Int × RS := (if (rU bs s).2.err = 0 then unzig (rU bs s).1 else 0, (rU bs s).2)
def rLen (bs : List UInt8) (most : Int) (s : RS) : Nat × RS :=
  if (rU bs s).2.err = 0 ∧ max most 0 < (rU bs s).1 then ((rU bs s).1, ⟨(rU bs s).2.pos, 3⟩) else rU bs s
def rT (bs : List UInt8) (most : Int) (s : RS) : List UInt8 × RS :=
  if (rLen bs most s).2.err = 0 then
    (if bs.length - (rLen bs most s).2.pos < (rLen bs most s).1 then ([], ⟨(rLen bs most s).2.pos, 28⟩)
     else ((bs.drop (rLen bs most s).2.pos).take (rLen bs most s).1, ⟨(rLen bs most s).2.pos + (rLen bs most s).1, 0⟩))
  else ([], (rLen bs most s).2)
def rL (bs : List UInt8) : Nat → RS → List Int × RS
  | 0, s => ([], s)
  | n + 1, s =>
    if (rI bs s).2.err = 0 then (if (rL bs n (rI bs s).2).2.err = 0 then ((rI bs s).1 :: (rL bs n (rI bs s).2).1, (rL bs n (rI bs s).2).2) else ([], (rL bs n (rI bs s).2).2))
    else ([], (rI bs s).2)
def rIs (bs : List UInt8) (most : Int) (s : RS) : List Int × RS :=
  if (rLen bs most s).2.err = 0 then rL bs (rLen bs most s).1 (rLen bs most s).2 else ([], (rLen bs most s).2)
def rLeft (bs : List UInt8) (s : RS) : Nat := if s.err = 0 then bs.length - s.pos else 0

/-- the state of a reader of bs: what it has read lies in bs. -/
def RS.ok (bs : List UInt8) (s : RS) : Prop := s.pos ≤ bs.length ∧ 0 ≤ s.err ∧ s.err ≤ 32
theorem vt_err : ∀ (l : List UInt8) (i : Nat) (e : Int), vt i l = .error e → e = 28 ∨ e = 9 ∨ e = 27
  | [], i, e, h => by rw [vt_nil] at h; injection h with h; omega
  | c :: l, i, e, h => by
    by_cases h9 : i = 9 ∧ 1 < c.toNat
    · rw [vt_over h9.1 h9.2] at h; injection h with h; omega
    · by_cases hc : c.toNat < 128
      · by_cases h0 : c.toNat = 0 ∧ 0 < i
        · rw [vt_zero h0.2 h0.1] at h; injection h with h; omega
        · rw [vt_last h9 h0 hc] at h; cases h
      · rw [vt_more h9 hc] at h
        cases hv : vt (i + 1) l with
        | error e' =>
          rw [hv] at h
          injection h with h
          subst h
          exact vt_err l (i + 1) _ hv
        | ok p => rw [hv] at h; cases h
theorem rU_shut {bs : List UInt8} {s : RS} (h : s.err ≠ 0) : rU bs s = (0, s) := by unfold rU; rw [if_neg h]
theorem rU_err {bs : List UInt8} {s : RS} {e : Int} (h : s.err = 0) (hv : vt 0 (bs.drop s.pos) = .error e) : rU bs s = (0, ⟨s.pos, e⟩) := by
  unfold rU; rw [if_pos h, hv]
theorem rU_ok {bs : List UInt8} {s : RS} {v k : Nat} (h : s.err = 0) (hv : vt 0 (bs.drop s.pos) = .ok (v, k)) : rU bs s = (v, ⟨s.pos + k, 0⟩) := by
  unfold rU; rw [if_pos h, hv]
theorem rU_fine {bs : List UInt8} {s : RS} (h : s.ok bs) : (rU bs s).2.ok bs ∧ (rU bs s).1 < 18446744073709551616 ∧ s.pos ≤ (rU bs s).2.pos ∧ ((rU bs s).2.err = 0 → s.err = 0 ∧ s.pos < (rU bs s).2.pos) := by
  by_cases he : s.err = 0
  · cases hv : vt 0 (bs.drop s.pos) with
    | error e =>
      rw [rU_err he hv]
      have := vt_err _ _ _ hv
      exact ⟨⟨h.1, by show 0 ≤ e; omega, by show e ≤ 32; omega⟩, by show 0 < _; omega, Nat.le_refl _, fun h0 => by have h0 : e = 0 := h0; omega⟩
    | ok p =>
      obtain ⟨v, k⟩ := p
      rw [rU_ok he hv]
      obtain ⟨a, b, c, _, _⟩ := vt_bound _ 0 v k (by omega) hv
      rw [List.length_drop] at b
      have := h.1
      exact ⟨⟨by show s.pos + k ≤ _; omega, by show (0 : Int) ≤ 0; omega, by show (0 : Int) ≤ 32; omega⟩, c, by show s.pos ≤ s.pos + k; omega, fun _ => ⟨he, by show s.pos < s.pos + k; omega⟩⟩
  · rw [rU_shut he]
    exact ⟨h, by show 0 < _; omega, Nat.le_refl _, fun h0 => absurd h0 he⟩
theorem rI_shut {bs : List UInt8} {s : RS} (h : s.err ≠ 0) : rI bs s = (0, s) := by
  unfold rI; rw [rU_shut h]; simp [h]
theorem rI_state (bs : List UInt8) (s : RS) : (rI bs s).2 = (rU bs s).2 := rfl
theorem rI_zero (bs : List UInt8) (s : RS) : (rI bs s).1 = unzig (rU bs s).1 := by
  unfold rI
  by_cases h : (rU bs s).2.err = 0
  · simp [h]
  · simp only [if_neg h]
    by_cases he : s.err = 0
    · cases hv : vt 0 (bs.drop s.pos) with
      | error e => rw [rU_err he hv]; exact unzig_zero.symm
      | ok p =>
        obtain ⟨v, k⟩ := p
        rw [rU_ok he hv] at h
        exact absurd rfl h
    · rw [rU_shut he]; exact unzig_zero.symm
theorem rLen_fine {bs : List UInt8} {s : RS} (most : Int) (h : s.ok bs) : (rLen bs most s).2.ok bs ∧ (rLen bs most s).1 < 18446744073709551616 ∧ s.pos ≤ (rLen bs most s).2.pos ∧ ((rLen bs most s).2.err = 0 → s.err = 0 ∧ s.pos < (rLen bs most s).2.pos ∧ ((rLen bs most s).1 : Int) ≤ max most 0) := by
  obtain ⟨a, b, c, d⟩ := rU_fine h
  unfold rLen
  split
  · exact ⟨⟨a.1, by show (0 : Int) ≤ 3; omega, by show (3 : Int) ≤ 32; omega⟩, b, c, fun h0 => by have h0 : (3 : Int) = 0 := h0; omega⟩
  · rename_i hn
    exact ⟨a, b, c, fun h0 => ⟨(d h0).1, (d h0).2, by rcases Int.lt_or_le (max most 0) ((rU bs s).1 : Int) with g | g; exact absurd ⟨h0, g⟩ hn; exact g⟩⟩
theorem rT_fine {bs : List UInt8} {s : RS} (most : Int) (h : s.ok bs) : (rT bs most s).2.ok bs ∧ (rT bs most s).1.length ≤ bs.length ∧ s.pos ≤ (rT bs most s).2.pos ∧ ((rT bs most s).2.err = 0 → s.err = 0) := by
  obtain ⟨a, b, c, d⟩ := rLen_fine most h
  unfold rT
  split
  · rename_i he
    split
    · exact ⟨⟨a.1, by show (0 : Int) ≤ 28; omega, by show (28 : Int) ≤ 32; omega⟩, by simp, c, fun h0 => by have h0 : (28 : Int) = 0 := h0; omega⟩
    · rename_i hn
      have := a.1
      exact ⟨⟨by show _ + _ ≤ _; omega, by show (0 : Int) ≤ 0; omega, by show (0 : Int) ≤ 32; omega⟩, by simp; omega, by show s.pos ≤ _ + _; omega, fun _ => (d he).1⟩
  · exact ⟨a, by simp, c, fun h0 => (d h0).1⟩
theorem rI_fine {bs : List UInt8} {s : RS} (h : s.ok bs) : (rI bs s).2.ok bs ∧ (-9223372036854775808 ≤ (rI bs s).1 ∧ (rI bs s).1 ≤ 9223372036854775807) ∧ s.pos ≤ (rI bs s).2.pos ∧ ((rI bs s).2.err = 0 → s.err = 0 ∧ s.pos < (rI bs s).2.pos) := by
  obtain ⟨a, b, c, d⟩ := rU_fine h
  exact ⟨a, by rw [rI_zero]; exact unzig_range b, c, d⟩
theorem rL_zero (bs : List UInt8) (s : RS) : rL bs 0 s = ([], s) := rfl
theorem rL_stop {bs : List UInt8} {n : Nat} {s : RS} (h : (rI bs s).2.err ≠ 0) : rL bs (n + 1) s = ([], (rI bs s).2) := by rw [rL, if_neg h]
theorem rL_go {bs : List UInt8} {n : Nat} {s : RS} (h : (rI bs s).2.err = 0) : rL bs (n + 1) s = (if (rL bs n (rI bs s).2).2.err = 0 then ((rI bs s).1 :: (rL bs n (rI bs s).2).1, (rL bs n (rI bs s).2).2) else ([], (rL bs n (rI bs s).2).2)) := by rw [rL, if_pos h]
theorem rL_fine {bs : List UInt8} : ∀ (n : Nat) (s : RS), s.ok bs → s.err = 0 → (rL bs n s).2.ok bs ∧ s.pos ≤ (rL bs n s).2.pos ∧ (rL bs n s).1.length + s.pos ≤ (rL bs n s).2.pos ∧ (∀ x ∈ (rL bs n s).1, -9223372036854775808 ≤ x ∧ x ≤ 9223372036854775807)
    ∧ ((rL bs n s).2.err = 0 → (rL bs n s).1.length = n) ∧ ((rL bs n s).2.err ≠ 0 → (rL bs n s).1 = [])
  | 0, s, h, he => ⟨h, Nat.le_refl _, by simp [rL_zero], by simp [rL_zero], fun _ => rfl, fun g => absurd he g⟩
  | n + 1, s, h, he => by
    obtain ⟨a, b, c, d⟩ := rI_fine h
    by_cases h1 : (rI bs s).2.err = 0
    · obtain ⟨a', b', c', d', e', f'⟩ := rL_fine n (rI bs s).2 a h1
      have := (d h1).2
      rw [rL_go h1]
      split
      · rename_i h2
        refine ⟨a', by show _ ≤ (rL bs n (rI bs s).2).2.pos; omega, ?_, ?_, fun _ => ?_, fun g => absurd h2 g⟩
        · show ((rI bs s).1 :: (rL bs n (rI bs s).2).1).length + s.pos ≤ (rL bs n (rI bs s).2).2.pos
          rw [List.length_cons]
          omega
        · intro x hx
          rcases List.mem_cons.1 hx with rfl | hx
          · exact b
          · exact d' x hx
        · show ((rI bs s).1 :: (rL bs n (rI bs s).2).1).length = n + 1
          rw [List.length_cons, e' h2]
      · rename_i h2
        exact ⟨a', by show _ ≤ (rL bs n (rI bs s).2).2.pos; omega, by show [].length + s.pos ≤ (rL bs n (rI bs s).2).2.pos; simp; omega, fun x hx => (by cases hx), fun g => absurd g h2, fun _ => rfl⟩
    · rw [rL_stop h1]
      exact ⟨a, c, by simpa using c, fun x hx => (by cases hx), fun g => absurd g h1, fun _ => rfl⟩
theorem rIs_fine {bs : List UInt8} {s : RS} (most : Int) (h : s.ok bs) : (rIs bs most s).2.ok bs ∧ s.pos ≤ (rIs bs most s).2.pos ∧ (rIs bs most s).1.length ≤ bs.length ∧ (∀ x ∈ (rIs bs most s).1, -9223372036854775808 ≤ x ∧ x ≤ 9223372036854775807) ∧ ((rIs bs most s).2.err = 0 → s.err = 0) ∧ ((rIs bs most s).2.err ≠ 0 → (rIs bs most s).1 = []) := by
  obtain ⟨a, b, c, d⟩ := rLen_fine most h
  unfold rIs
  split
  · rename_i he
    obtain ⟨a', b', c', d', _, f'⟩ := rL_fine (rLen bs most s).1 _ a he
    have := a'.1
    exact ⟨a', by omega, by omega, d', fun _ => (d he).1, f'⟩
  · rename_i he
    exact ⟨a, c, by simp, fun x hx => (by cases hx), fun h0 => absurd h0 he, fun _ => rfl⟩
/-- rounds of the list's loop: what was read so far, and what is to come. -/
def rLsofar (bs : List UInt8) (n : Nat) (a : List Int) (s : RS) : List Int × RS := if (rL bs n s).2.err = 0 then (a ++ (rL bs n s).1, (rL bs n s).2) else ([], (rL bs n s).2)
theorem rLsofar_start {bs : List UInt8} {n : Nat} {s : RS} (h : s.ok bs) (he : s.err = 0) : rLsofar bs n [] s = rL bs n s := by
  unfold rLsofar
  obtain ⟨_, _, _, _, _, f⟩ := rL_fine n s h he
  split
  · simp
  · rename_i h0
    rw [← f h0]
theorem rLsofar_go {bs : List UInt8} {n : Nat} {a : List Int} {s : RS} (h : (rI bs s).2.err = 0) : rLsofar bs (n + 1) a s = rLsofar bs n (a ++ [(rI bs s).1]) (rI bs s).2 := by
  unfold rLsofar
  rw [rL_go h]
  by_cases h2 : (rL bs n (rI bs s).2).2.err = 0
  · simp [h2]
  · simp [h2]
theorem rLsofar_stop {bs : List UInt8} {n : Nat} {a : List Int} {s : RS} (h : (rI bs s).2.err ≠ 0) : rLsofar bs (n + 1) a s = ([], (rI bs s).2) := by
  unfold rLsofar
  rw [rL_stop h]
  simp [h]
theorem rLsofar_end {bs : List UInt8} {a : List Int} {s : RS} (h : s.err = 0) : rLsofar bs 0 a s = (a, s) := by
  unfold rLsofar
  simp [rL_zero, h]

/-! ### reading what was written -/
theorem drop_at (p r : List UInt8) : (p ++ r).drop p.length = r := by simp
theorem rU_of {p r : List UInt8} {n : Nat} (hn : n < 18446744073709551616) : rU (p ++ (uv n ++ r)) ⟨p.length, 0⟩ = (n, ⟨p.length + (uv n).length, 0⟩) :=
  rU_ok rfl (by rw [drop_at]; exact vt_uv 0 n r (by omega) hn (by omega))
theorem rI_of {p r : List UInt8} {x : Int} (h1 : -9223372036854775808 ≤ x) (h2 : x ≤ 9223372036854775807) : rI (p ++ (wInt x ++ r)) ⟨p.length, 0⟩ = (x, ⟨p.length + (wInt x).length, 0⟩) := by
  have h := rU_of (p := p) (r := r) (zig_lt h1 h2)
  unfold rI wInt
  rw [h]
  simp [unzig_zig]
theorem rLen_of {p r : List UInt8} {n : Nat} {most : Int} (hn : n < 18446744073709551616) (hm : (n : Int) ≤ max most 0) : rLen (p ++ (uv n ++ r)) most ⟨p.length, 0⟩ = (n, ⟨p.length + (uv n).length, 0⟩) := by
  unfold rLen
  rw [rU_of hn, if_neg (by simp only [not_and]; intro _; omega)]
theorem rT_of {p r s : List UInt8} {most : Int} (hn : s.length < 18446744073709551616) (hm : (s.length : Int) ≤ max most 0) : rT (p ++ (wText s ++ r)) most ⟨p.length, 0⟩ = (s, ⟨p.length + (wText s).length, 0⟩) := by
  unfold rT wText
  rw [List.append_assoc, rLen_of hn hm, if_pos rfl, if_neg (by simp; omega)]
  have e : (p ++ (uv s.length ++ (s ++ r))).drop (p.length + (uv s.length).length) = s ++ r := by
    rw [← List.append_assoc, List.drop_append_of_le_length (by simp), List.drop_of_length_le (by simp)]
    simp
  show (((p ++ (uv s.length ++ (s ++ r))).drop (p.length + (uv s.length).length)).take s.length, _) = _
  rw [e]
  simp [Nat.add_assoc]
theorem rL_of {l : List Int} (hl : ∀ x ∈ l, -9223372036854775808 ≤ x ∧ x ≤ 9223372036854775807) : ∀ (p r : List UInt8), rL (p ++ (wIntsL l ++ r)) l.length ⟨p.length, 0⟩ = (l, ⟨p.length + (wIntsL l).length, 0⟩) := by
  induction l with
  | nil => intro p r; simp [rL_zero, wIntsL]
  | cons x l ih =>
    intro p r
    have hx := hl x (List.mem_cons_self ..)
    have e : p ++ (wIntsL (x :: l) ++ r) = p ++ (wInt x ++ (wIntsL l ++ r)) := by simp [wIntsL]
    have h1 := rI_of (p := p) (r := wIntsL l ++ r) hx.1 hx.2
    have h2 := ih (fun y hy => hl y (List.mem_cons_of_mem _ hy)) (p ++ wInt x) r
    rw [List.append_assoc, List.length_append] at h2
    rw [e, List.length_cons, rL_go (by rw [h1]), h1]
    simp only [h2, if_true]
    simp [wIntsL, Nat.add_assoc]
theorem rIs_of {p r : List UInt8} {l : List Int} {most : Int} (hl : ∀ x ∈ l, -9223372036854775808 ≤ x ∧ x ≤ 9223372036854775807) (hn : l.length < 18446744073709551616) (hm : (l.length : Int) ≤ max most 0) :
    rIs (p ++ (wInts l ++ r)) most ⟨p.length, 0⟩ = (l, ⟨p.length + (wInts l).length, 0⟩) := by
  unfold rIs wInts
  rw [List.append_assoc, rLen_of hn hm, if_pos rfl]
  have h := rL_of hl (p ++ uv l.length) r
  rw [List.append_assoc, List.length_append] at h
  simp only [h, List.length_append, Nat.add_assoc]

/-! ### writing what was read -/
theorem drop_split {bs : List UInt8} {k : Nat} : bs.take k ++ bs.drop k = bs := List.take_append_drop k bs
theorem take_more (bs : List UInt8) (a k : Nat) : bs.take (a + k) = bs.take a ++ (bs.drop a).take k := List.take_add ..
theorem rU_back {bs : List UInt8} {s : RS} (h : (rU bs s).2.err = 0) : s.err = 0 ∧ bs.take (rU bs s).2.pos = bs.take s.pos ++ uv (rU bs s).1 := by
  by_cases he : s.err = 0
  · cases hv : vt 0 (bs.drop s.pos) with
    | error e =>
      rw [rU_err he hv] at h
      have := vt_err _ _ _ hv
      have h : e = 0 := h
      omega
    | ok p =>
      obtain ⟨v, k⟩ := p
      rw [rU_ok he hv]
      obtain ⟨_, _, _, _, e⟩ := vt_bound _ 0 v k (by omega) hv
      exact ⟨he, by show bs.take (s.pos + k) = _; rw [take_more, e]⟩
  · rw [rU_shut he] at h
    exact absurd h he
theorem rI_back {bs : List UInt8} {s : RS} (h : (rI bs s).2.err = 0) : s.err = 0 ∧ bs.take (rI bs s).2.pos = bs.take s.pos ++ wInt (rI bs s).1 := by
  have h' : (rU bs s).2.err = 0 := h
  obtain ⟨a, b⟩ := rU_back h'
  refine ⟨a, ?_⟩
  rw [rI_zero, wInt, zig_unzig]
  exact b
theorem rLen_back {bs : List UInt8} {most : Int} {s : RS} (h : (rLen bs most s).2.err = 0) : s.err = 0 ∧ bs.take (rLen bs most s).2.pos = bs.take s.pos ++ uv (rLen bs most s).1 := by
  unfold rLen at h ⊢
  split at h
  · have h : (3 : Int) = 0 := h
    omega
  · rename_i hn
    rw [if_neg hn]
    exact rU_back h
theorem rT_back {bs : List UInt8} {most : Int} {s : RS} (h : (rT bs most s).2.err = 0) : s.err = 0 ∧ bs.take (rT bs most s).2.pos = bs.take s.pos ++ wText (rT bs most s).1 := by
  unfold rT at h ⊢
  split at h
  · rename_i he
    rw [if_pos he]
    split at h
    · have h : (28 : Int) = 0 := h
      omega
    · rename_i hn
      rw [if_neg hn]
      obtain ⟨a, b⟩ := rLen_back he
      refine ⟨a, ?_⟩
      show bs.take (_ + _) = _ ++ wText ((bs.drop _).take _)
      rw [take_more, b, wText, List.length_take, List.length_drop, Nat.min_eq_left (by omega), List.append_assoc]
  · rename_i he
    exact absurd h he
theorem rL_back {bs : List UInt8} : ∀ (n : Nat) (s : RS), (rL bs n s).2.err = 0 → s.err = 0 ∧ bs.take (rL bs n s).2.pos = bs.take s.pos ++ wIntsL (rL bs n s).1
  | 0, s, h => ⟨h, by simp [rL_zero, wIntsL]⟩
  | n + 1, s, h => by
    by_cases h1 : (rI bs s).2.err = 0
    · rw [rL_go h1] at h ⊢
      split at h
      · rename_i h2
        rw [if_pos h2]
        obtain ⟨a, b⟩ := rL_back n _ h2
        obtain ⟨a', b'⟩ := rI_back h1
        refine ⟨a', ?_⟩
        show bs.take (rL bs n (rI bs s).2).2.pos = _ ++ wIntsL ((rI bs s).1 :: _)
        rw [b, b']
        simp [wIntsL]
      · rename_i h2
        exact absurd h h2
    · rw [rL_stop h1] at h
      exact absurd h h1
theorem rIs_back {bs : List UInt8} {most : Int} {s : RS} (hs : s.ok bs) (h : (rIs bs most s).2.err = 0) : s.err = 0 ∧ bs.take (rIs bs most s).2.pos = bs.take s.pos ++ wInts (rIs bs most s).1 := by
  unfold rIs at h ⊢
  split at h
  · rename_i he
    rw [if_pos he]
    obtain ⟨a, b⟩ := rL_back _ _ h
    obtain ⟨a', b'⟩ := rLen_back he
    obtain ⟨f, _, _, _⟩ := rLen_fine most hs
    obtain ⟨_, _, _, _, e, _⟩ := rL_fine (rLen bs most s).1 _ f he
    refine ⟨a', ?_⟩
    rw [b, b', wInts, e h, List.append_assoc]
  · rename_i he
    exact absurd h he
end Go.Proofs.Ythpmngdpgniehaa.Wr
