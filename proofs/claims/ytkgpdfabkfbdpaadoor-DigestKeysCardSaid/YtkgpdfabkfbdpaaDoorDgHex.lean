/-
  The walks of Hex and ParseHex, of package digest and of its reference. Conditions: the table hexDigits holds its sixteen digits; a uint64 argument is a uint64; a string is at most maxLen long.
-/
import Derived.Test.YtkgpdfabkfbdpaaDoorDgHexPlain
import Derived.Test.YtkgpdfabkfbdpaaDoorDgWalks
import Derived.Laws.IdiomStrings
namespace Go.Proofs.YtkgpdfabkfbdpaaDoor.Dg
open Go.RowKit

/-- the table of digits, as the program's text lays it. -/
def Tab (w : World) : Prop := 0 < w.heap.size ∧ ∀ i, i < 16 → w.cell? ⟨0, i, none⟩ = some (.int .u8 ((dig i).toNat : Int))

/-- the array that Hex fills, after k rounds. -/
def hexArr (n k : Nat) : Array Value := (((hexL 16 n).take k).map (fun c : UInt8 => Value.int .u8 (c.toNat : Int)) ++ List.replicate (16 - k) (Value.int .u8 0)).toArray
theorem hexArr_zero (n : Nat) : #[Value.int IntKind.u8 0, Value.int IntKind.u8 0, Value.int IntKind.u8 0, Value.int IntKind.u8 0,
      Value.int IntKind.u8 0, Value.int IntKind.u8 0, Value.int IntKind.u8 0, Value.int IntKind.u8 0,
      Value.int IntKind.u8 0, Value.int IntKind.u8 0, Value.int IntKind.u8 0, Value.int IntKind.u8 0,
      Value.int IntKind.u8 0, Value.int IntKind.u8 0, Value.int IntKind.u8 0, Value.int IntKind.u8 0] = hexArr n 0 := by
  simp [hexArr, List.replicate]
theorem hexArr_at (n k : Nat) (h : k < 16) : (hexArr n k)[k]? = some (.int .u8 0) := by
  have hl := hexL_len 16 n
  simp only [hexArr, List.getElem?_toArray]
  rw [List.getElem?_append_right (by simp [hl]; omega)]
  simp [hl, List.getElem?_replicate]
  omega
theorem hexArr_set (n k : Nat) (h : k < 16) : (hexArr n k).setIfInBounds k (.int .u8 ((dig (n / 16 ^ (15 - k) % 16)).toNat : Int)) = hexArr n (k + 1) := by
  have hl := hexL_len 16 n
  have hg : (hexL 16 n)[k]? = some (dig (n / 16 ^ (15 - k) % 16)) := hexL_get 16 n k h
  apply Array.ext'
  apply List.ext_getElem?
  intro j
  simp only [hexArr, List.setIfInBounds_toArray, List.getElem?_set]
  by_cases hj : k = j
  · subst hj
    rw [if_pos rfl, if_pos (by simp [hl]; omega), List.getElem?_append_left (by simp [hl]; omega)]
    simp [hg]
  · rw [if_neg hj]
    rcases Nat.lt_or_ge j k with h1 | h1
    · rw [List.getElem?_append_left (by simp [hl]; omega), List.getElem?_append_left (by simp [hl]; omega)]
      simp [h1, show j < k + 1 from by omega]
    · rw [List.getElem?_append_right (by simp [hl]; omega), List.getElem?_append_right (by simp [hl]; omega)]
      simp [hl, List.getElem?_replicate]
      rw [show min k 16 = k from by omega, show min (k + 1) 16 = k + 1 from by omega]
      by_cases h2 : j < 16
      · rw [if_pos (by omega), if_pos (by omega)]
      · rw [if_neg (by omega), if_neg (by omega)]
theorem hexArr_end (n j : Nat) (hj : j < (hexL 16 n).length) : (hexArr n 16)[j]? = some (.int .u8 (((hexL 16 n)[j]).toNat : Int)) := by
  have hl := hexL_len 16 n
  have h16 : j < 16 := by omega
  simp [hexArr, h16, List.getElem?_eq_getElem hj]
theorem and15 (n k : Nat) (hn : n < 18446744073709551616) : bits .and .u64 ((n : Int) / 2 ^ (4 * (15 - k))) 15 = ((n / 16 ^ (15 - k) % 16 : Nat) : Int) := by
  have e : ((n : Int) / 2 ^ (4 * (15 - k))) = ((n / 16 ^ (15 - k) : Nat) : Int) := by
    rw [Int.natCast_ediv]
    congr 1
    rw [Int.pow_mul, Int.natCast_pow]
    rfl
  rw [e]
  have hb : n / 16 ^ (15 - k) < 18446744073709551616 := Nat.lt_of_le_of_lt (Nat.div_le_self _ _) hn
  have := u64_and_nat (n / 16 ^ (15 - k)) 15 hb (by decide)
  rw [nat_mask4] at this
  exact this

set_option maxHeartbeats 400000 in
theorem hex_any (n : Nat) (w : World) (hn : n < 18446744073709551616) (hT : Tab w) :
    Calls Tryd.prog 18 #[.int .u64 (n : Int)] w fun e w' => e = .returned (.string ⟨(hexL 16 n).toArray⟩) ∧ Below w.heap.size w w' := by
  have HN := Lib.hid hn
  have HT := Lib.hid hT
  clear hn hT
  have h0 := HT.out.1
  go_enter Tryd.func18, Tryd.ntmps18
  go_wp2
  rw [hexArr_zero n]
  go_loopw [5] (fun i wr => ∃ k : Nat, k ≤ 16 ∧ i = .int .i64 k ∧ wr = w.alloc (.cells (hexArr n k) 40)) (fun i _ => 16 - (intOf i).toNat)
  case atStart => exact ⟨0, by omega, rfl, rfl⟩
  case round =>
    obtain ⟨k, hk, rfl, rfl⟩ := hrel
    by_cases hlt : k < 16
    · have hset := hexArr_set n k hlt
      have hat := hexArr_at n k hlt
      have he := and15 n k HN.out
      have hd : n / 16 ^ (15 - k) % 16 < 16 := Nat.mod_lt _ (by decide)
      generalize n / 16 ^ (15 - k) % 16 = d at hset he hd
      have hc := HT.out.2 d hd
      have HS := Lib.hid hset
      clear hset
      go_wp2
      go_roundw
      case rel => exact ⟨k + 1, by omega, by go_num, by rw [HS.out]⟩
      case measure => simp [intOf]; omega
    · obtain rfl : k = 16 := by omega
      have hconv := run_convert_bytes_back (P := Tryd.prog) (w.alloc (.cells (hexArr n 16) 40)) 26 9 5 ⟨w.heap.size, 0, none⟩ 16 (hexL 16 n) Tryd.underlying26 Tryd.underlying5 Tryd.underlying9
        (fun j hj => by rw [Addr.add_lit, World.cell?_alloc_mark]; simpa using hexArr_end n j hj)
      rw [hexL_len] at hconv
      go_wp2
      go_ret
      exact ⟨rfl, (Below.refl _ _).alloc (Nat.le_refl _) _⟩

/-! ### ParseHex -/
theorem or_digit (y d : Nat) (hy : y < 16 ^ 15) (hd : d < 16) (z : Int) (hz : z = (d : Int)) : bits .or .u64 (IntKind.u64.wrap ((y : Int) * 16)) z = ((16 * y + d : Nat) : Int) := by
  have e : IntKind.u64.wrap ((y : Int) * 16) = ((y * 16 : Nat) : Int) := by rw [IntKind.wrap_u64]; omega
  rw [e, hz, u64_or_nat _ _ (by omega) (by omega), nat_join 4 _ _ (by omega) (by omega)]
  omega
theorem add48 {y : Nat} {c : UInt8} (hy : y < 16 ^ 15) (h1 : 48 ≤ (c.toNat : Int)) (h2 : (c.toNat : Int) ≤ 57) : IntKind.u64.wrap (IntKind.u64.wrap (16 * (y : Int)) + ((c.toNat : Int) - 48)) = ((16 * y + (c.toNat - 48) : Nat) : Int) := by
  rw [IntKind.wrap_u64, IntKind.wrap_u64]
  omega
theorem add97 {y : Nat} {c : UInt8} (hy : y < 16 ^ 15) (h1 : 97 ≤ (c.toNat : Int)) (h2 : (c.toNat : Int) ≤ 102) : IntKind.u64.wrap (IntKind.u64.wrap (IntKind.u64.wrap (16 * (y : Int)) + ((c.toNat : Int) - 97)) + 10) = ((16 * y + (c.toNat - 87) : Nat) : Int) := by
  rw [IntKind.wrap_u64, IntKind.wrap_u64, IntKind.wrap_u64]
  omega
theorem parse_step {l : List UInt8} {k y d : Nat} {c : UInt8} (h : parseL (l.take k) 0 = some y) (ht : l.take (k + 1) = l.take k ++ [c]) (hd : pv c = some d) : parseL (l.take (k + 1)) 0 = some (16 * y + d) := by
  rw [ht, parseL_snoc, h, hd]
  rfl
theorem parse_bound {l : List UInt8} {k y : Nat} (h : parseL (l.take k) 0 = some y) (hk : k < 16) : y < 16 ^ 15 := by
  have h1 := parseL_lt h
  have h2 : (l.take k).length ≤ 15 := Nat.le_trans (List.length_take_le _ _) (by omega)
  exact Nat.lt_of_lt_of_le h1 (Nat.pow_le_pow_right (by decide) h2)
theorem pv_digit {c : UInt8} (h1 : 48 ≤ (c.toNat : Int)) (h2 : (c.toNat : Int) ≤ 57) : pv c = some (c.toNat - 48) := by
  unfold pv
  rw [if_pos ⟨by omega, by omega⟩]
theorem pv_letter {c : UInt8} (h1 : 97 ≤ (c.toNat : Int)) (h2 : (c.toNat : Int) ≤ 102) : pv c = some (c.toNat - 87) := by
  unfold pv
  rw [if_neg (by omega), if_pos ⟨by omega, by omega⟩]
theorem pv_other {c : UInt8} (h1 : ¬ (48 ≤ (c.toNat : Int) ∧ (c.toNat : Int) ≤ 57)) (h2 : ¬ (97 ≤ (c.toNat : Int) ∧ (c.toNat : Int) ≤ 102)) : pv c = none := by
  unfold pv
  rw [if_neg (by omega), if_neg (by omega)]
theorem parse_bad (s : ByteArray) (k : Nat) (hk : k < s.size) (h : pv s[k] = none) : parseL s.data.toList 0 = none := by
  have e : s.data.toList = s.data.toList.take k ++ s[k] :: s.data.toList.drop (k + 1) := by
    have h1 : k < s.data.toList.length := by simpa using hk
    rw [show s[k] = s.data.toList[k] from rfl, ← List.drop_eq_getElem_cons h1, List.take_append_drop]
  rw [e]
  exact parseL_bad _ _ _ _ h
theorem parse_short {s : ByteArray} (h : ¬ s.size = 16) : parseX s.data.toList = 0 ∧ parseE s.data.toList = 1 := by
  have h2 : ¬ s.data.toList.length = 16 := by simpa using h
  unfold parseX parseE
  rw [if_neg h2, if_neg (fun h3 => h2 h3.1)]
  exact ⟨rfl, rfl⟩
theorem parse_none {s : ByteArray} (h : s.size = 16) (hp : parseL s.data.toList 0 = none) : parseX s.data.toList = 0 ∧ parseE s.data.toList = 1 := by
  have h2 : s.data.toList.length = 16 := by simpa using h
  unfold parseX parseE
  rw [if_pos h2, hp]
  simp
theorem parse_some {s : ByteArray} {y : Nat} (h : s.size = 16) (hp : parseL s.data.toList 0 = some y) : parseX s.data.toList = (y : Int) ∧ parseE s.data.toList = 0 := by
  have h2 : s.data.toList.length = 16 := by simpa using h
  unfold parseX parseE
  rw [if_pos h2, hp, if_pos ⟨h2, rfl⟩]
  exact ⟨rfl, rfl⟩
theorem ret_two {s : ByteArray} {a b : Int} (h : parseX s.data.toList = a ∧ parseE s.data.toList = b) :
    Ending.returned (.tuple #[.int .u64 a, .int .i64 b]) = .returned (.tuple #[.int .u64 (parseX s.data.toList), .int .i64 (parseE s.data.toList)]) := by rw [h.1, h.2]

set_option maxHeartbeats 400000 in
theorem parse_any (s : ByteArray) (w : World) :
    Calls Tryd.prog 19 #[.string s] w fun e w' => e = .returned (.tuple #[.int .u64 (parseX s.data.toList), .int .i64 (parseE s.data.toList)]) ∧ w = w' := by
  by_cases h16 : s.size = 16
  · have ht : ((s.size : Int) != 16) = false := by simp [h16]
    have H16 := Lib.hid h16
    go_enter Tryd.func19, Tryd.ntmps19
    go_wp2
    go_loop [4, 10] (fun x i => ∃ k y : Nat, k ≤ 16 ∧ i = .int .i64 k ∧ x = .int .u64 (y : Int) ∧ Hid (parseL (s.data.toList.take k) 0 = some y)) (fun _ i => 16 - (intOf i).toNat)
    case atStart => exact ⟨0, 0, by omega, rfl, rfl, rfl⟩
    case round =>
      obtain ⟨k, y, hk, rfl, rfl, HP⟩ := hrel
      by_cases hlt : k < 16
      · have hlt' : k < s.size := by omega
        have HB := Lib.hid (parse_bound HP.out hlt)
        by_cases hd : 48 ≤ (s[k].toNat : Int) ∧ (s[k].toNat : Int) ≤ 57
        · obtain ⟨hd1, hd2⟩ := hd
          have HS := Lib.hid (parse_step HP.out (take_snoc s k hlt') (pv_digit hd1 hd2))
          go_wp2
          go_round
          case rel => exact ⟨k + 1, _, by omega, by go_num, by rw [or_digit y (s[k].toNat - 48) HB.out (by omega) _ (by omega)], HS⟩
          case measure => simp [intOf]; omega
        · by_cases hx : 97 ≤ (s[k].toNat : Int) ∧ (s[k].toNat : Int) ≤ 102
          · obtain ⟨hx1, hx2⟩ := hx
            have hx3 : ¬ (s[k].toNat : Int) ≤ 57 := by omega
            clear hd
            have HS := Lib.hid (parse_step HP.out (take_snoc s k hlt') (pv_letter hx1 hx2))
            go_wp2
            go_round
            case rel => exact ⟨k + 1, _, by omega, by go_num, by rw [or_digit y (s[k].toNat - 87) HB.out (by omega) _ (by omega)], HS⟩
            case measure => simp [intOf]; omega
          · have HN := Lib.hid (parse_none h16 (parse_bad s k hlt' (pv_other hd hx)))
            go_wp2
            all_goals first | (exfalso; omega) | (go_ret2; exact ⟨ret_two HN.out, rfl⟩)
      · obtain rfl : k = 16 := by omega
        have HE : Hid (parseL s.data.toList 0 = some y) := by
          have h1 := HP.out
          rw [List.take_of_length_le (by simp; omega)] at h1
          exact h1
        have HQ := Lib.hid (parse_some h16 HE.out)
        go_wp2
        go_ret2
        exact ⟨ret_two HQ.out, rfl⟩
  · have ht : ((s.size : Int) != 16) = true := by simp; omega
    have HN := Lib.hid (parse_short h16)
    go_enter Tryd.func19, Tryd.ntmps19
    go_wp2
    go_ret2
    exact ⟨ret_two HN.out, rfl⟩

set_option maxHeartbeats 400000 in
theorem parseR_any (s : ByteArray) (w : World) :
    Calls Tryd.prog 21 #[.string s] w fun e w' => e = .returned (.tuple #[.int .u64 (parseX s.data.toList), .int .i64 (parseE s.data.toList)]) ∧ w = w' := by
  by_cases h16 : s.size = 16
  · have ht : ((s.size : Int) != 16) = false := by simp [h16]
    have H16 := Lib.hid h16
    go_enter Tryd.func21, Tryd.ntmps21
    go_wp2
    go_loop [4, 5] (fun x i => ∃ k y : Nat, k ≤ 16 ∧ i = .int .i64 k ∧ x = .int .u64 (y : Int) ∧ Hid (parseL (s.data.toList.take k) 0 = some y)) (fun _ i => 16 - (intOf i).toNat)
    case atStart => exact ⟨0, 0, by omega, rfl, rfl, rfl⟩
    case round =>
      obtain ⟨k, y, hk, rfl, rfl, HP⟩ := hrel
      by_cases hlt : k < 16
      · have hlt' : k < s.size := by omega
        have HB := Lib.hid (parse_bound HP.out hlt)
        by_cases hd : 48 ≤ (s[k].toNat : Int) ∧ (s[k].toNat : Int) ≤ 57
        · obtain ⟨hd1, hd2⟩ := hd
          have HS := Lib.hid (parse_step HP.out (take_snoc s k hlt') (pv_digit hd1 hd2))
          go_wp2
          go_round
          case rel => exact ⟨k + 1, _, by omega, by go_num, by exact congrArg (Value.int .u64) (add48 HB.out hd1 hd2), HS⟩
          case measure => simp [intOf]; omega
        · by_cases hx : 97 ≤ (s[k].toNat : Int) ∧ (s[k].toNat : Int) ≤ 102
          · obtain ⟨hx1, hx2⟩ := hx
            have hx3 : ¬ (s[k].toNat : Int) ≤ 57 := by omega
            clear hd
            have HS := Lib.hid (parse_step HP.out (take_snoc s k hlt') (pv_letter hx1 hx2))
            go_wp2
            go_round
            case rel => exact ⟨k + 1, _, by omega, by go_num, by exact congrArg (Value.int .u64) (add97 HB.out hx1 hx2), HS⟩
            case measure => simp [intOf]; omega
          · have HN := Lib.hid (parse_none h16 (parse_bad s k hlt' (pv_other hd hx)))
            go_wp2
            all_goals first | (exfalso; omega) | (go_ret2; exact ⟨ret_two HN.out, rfl⟩)
      · obtain rfl : k = 16 := by omega
        have HE : Hid (parseL s.data.toList 0 = some y) := by
          have h1 := HP.out
          rw [List.take_of_length_le (by simp; omega)] at h1
          exact h1
        have HQ := Lib.hid (parse_some h16 HE.out)
        go_wp2
        go_ret2
        exact ⟨ret_two HQ.out, rfl⟩
  · have ht : ((s.size : Int) != 16) = true := by simp; omega
    have HN := Lib.hid (parse_short h16)
    go_enter Tryd.func21, Tryd.ntmps21
    go_wp2
    go_ret2
    exact ⟨ret_two HN.out, rfl⟩

theorem digits_cut (d : Nat) (h : d < 16) : (⟨#[48, 49, 50, 51, 52, 53, 54, 55, 56, 57, 97, 98, 99, 100, 101, 102]⟩ : ByteArray).extract d (d + 1) = ⟨#[dig d]⟩ := by
  have : ∀ d : Fin 16, (⟨#[48, 49, 50, 51, 52, 53, 54, 55, 56, 57, 97, 98, 99, 100, 101, 102]⟩ : ByteArray).extract d.val (d.val + 1) = ⟨#[dig d.val]⟩ := by decide +kernel
  exact this ⟨d, h⟩
set_option maxHeartbeats 400000 in
theorem hexR_any (n : Nat) (w : World) (hn : n < 18446744073709551616) :
    Calls Tryd.prog 20 #[.int .u64 (n : Int)] w fun e w' => e = .returned (.string ⟨(hexL 16 n).toArray⟩) ∧ w = w' := by
  have HN := Lib.hid hn
  clear hn
  go_enter Tryd.func20, Tryd.ntmps20
  go_wp2
  go_loop [0, 3, 4] (fun x t i => ∃ k m : Nat, k ≤ 16 ∧ i = .int .i64 k ∧ x = .int .u64 (m : Int) ∧ t = .string ⟨(hexL k n).toArray⟩ ∧ Hid (m = n / 16 ^ k)) (fun _ _ i => 16 - (intOf i).toNat)
  case atStart => exact ⟨0, n, by omega, rfl, rfl, rfl, by show n = n / 16 ^ 0; simp⟩
  case round =>
    obtain ⟨k, m, hk, rfl, rfl, rfl, HM⟩ := hrel
    by_cases hlt : k < 16
    · have hl := hexL_len k n
      have HW : Hid (IntKind.u64.wrap ((m : Int) / 16) = ((n / 16 ^ (k + 1) : Nat) : Int)) := by
        have h1 := HM.out
        have h2 := HN.out
        have h3 : n / 16 ^ (k + 1) = m / 16 := by rw [h1, Nat.div_div_eq_div_mul, Nat.pow_succ]
        have h4 : m ≤ n := by rw [h1]; exact Nat.div_le_self _ _
        show _ = _
        rw [h3, IntKind.wrap_u64]
        omega
      have HD : Hid ((⟨#[48, 49, 50, 51, 52, 53, 54, 55, 56, 57, 97, 98, 99, 100, 101, 102]⟩ : ByteArray).extract (m % 16) (m % 16 + 1) ++ ⟨(hexL k n).toArray⟩ = ⟨(hexL (k + 1) n).toArray⟩) := by
        show _ = _
        rw [hexL_cons, ← HM.out, digits_cut _ (Nat.mod_lt _ (by decide))]
        rfl
      go_wp2
      go_round
      case rel => exact ⟨k + 1, _, by omega, by go_num, by rw [HW.out], by rw [HD.out], rfl⟩
      case measure => simp [intOf]; omega
    · obtain rfl : k = 16 := by omega
      go_wp2
      go_ret
      exact ⟨rfl, rfl⟩
end Go.Proofs.YtkgpdfabkfbdpaaDoor.Dg
