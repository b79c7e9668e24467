/-
  The walks of the eight statements of chapter 7: each returns true, and changes nothing that was there. Conditions: the arguments are of their types; the table hexDigits holds its sixteen digits.
-/
import Derived.Test.YtkgpdfabkfbdpaaDoorDgAwake
namespace Go.Proofs.YtkgpdfabkfbdpaaDoor.Dg
open Go.RowKit

set_option maxHeartbeats 400000 in
theorem sums_walk (s : ByteArray) (w : World) (hs : s.size ≤ maxLen) (hT : Tab w) :
    Calls Tryd.prog 3 #[.string s] w fun e w' => e = .returned (.bool true) ∧ Below w.heap.size w w' := by
  have HT := Lib.hid hT
  have HS := Lib.hid hs
  clear hT hs
  by_cases h : 5000 < s.size
  · go_enter Tryd.func3, Tryd.ntmps3
    go_wp2_with fail
    refine (awake_any _ HT.out).mono ?_
    rintro e w1 ⟨rfl, hb⟩
    go_wp2_with fail
    go_ret
    exact ⟨rfl, hb⟩
  · go_enter Tryd.func3, Tryd.ntmps3
    go_wp2_with fail
    refine (sum_any _ _ HS.out).mono ?_
    rintro e w' ⟨rfl, rfl⟩
    go_wp2_with fail
    refine (sumR_any _ _ HS.out).mono ?_
    rintro e w' ⟨rfl, rfl⟩
    go_wp2_with fail
    refine (awake_any _ HT.out).mono ?_
    rintro e w1 ⟨rfl, hb⟩
    go_wp2_with fail
    go_ret
    exact ⟨rfl, hb⟩

set_option maxHeartbeats 400000 in
theorem mixes_walk (n : Int) (w : World) (hn : U64 n) (hT : Tab w) :
    Calls Tryd.prog 5 #[.int .u64 n] w fun e w' => e = .returned (.bool true) ∧ Below w.heap.size w w' := by
  have HT := Lib.hid hT
  clear hT
  go_enter Tryd.func5, Tryd.ntmps5
  go_wp2_with fail
  refine (mix_any _ _ hn).mono ?_
  rintro e w' ⟨rfl, rfl⟩
  go_wp2_with fail
  refine (mixR_any _ _ hn).mono ?_
  rintro e w' ⟨rfl, rfl⟩
  go_wp2_with fail
  refine (unmix_any _ _ hn).mono ?_
  rintro e w' ⟨rfl, rfl⟩
  go_wp2_with fail
  refine (unmixR_any _ _ hn).mono ?_
  rintro e w' ⟨rfl, rfl⟩
  go_wp2_with fail
  refine (awake_any _ HT.out).mono ?_
  rintro e w1 ⟨rfl, hb⟩
  go_wp2_with fail
  go_ret
  exact ⟨rfl, hb⟩

set_option maxHeartbeats 400000 in
theorem inverts_walk (x y : Int) (w : World) (hx : U64 x) (hy : U64 y) (hT : Tab w) :
    Calls Tryd.prog 6 #[.int .u64 x, .int .u64 y] w fun e w' => e = .returned (.bool true) ∧ Below w.heap.size w w' := by
  have HT := Lib.hid hT
  have h3 : (mixI x == mixI y) = (x == y) := by rw [Bool.eq_iff_iff, beq_iff_eq, beq_iff_eq]; exact mixI_inj hx hy
  have H3 := Lib.hid h3
  clear hT h3
  go_enter Tryd.func6, Tryd.ntmps6
  go_wp2_with fail
  refine (mix_any _ _ hx).mono ?_
  rintro e w' ⟨rfl, rfl⟩
  go_wp2_with fail
  refine (unmix_any _ _ (mixI_u64 _)).mono ?_
  rintro e w' ⟨rfl, rfl⟩
  rw [unmix_mixI hx]
  go_wp2_with fail
  refine (unmix_any _ _ hx).mono ?_
  rintro e w' ⟨rfl, rfl⟩
  go_wp2_with fail
  refine (mix_any _ _ (unmixI_u64 _)).mono ?_
  rintro e w' ⟨rfl, rfl⟩
  rw [mix_unmixI hx]
  go_wp2_with fail
  refine (mix_any _ _ hx).mono ?_
  rintro e w' ⟨rfl, rfl⟩
  go_wp2_with fail
  refine (mix_any _ _ hy).mono ?_
  rintro e w' ⟨rfl, rfl⟩
  have h3 := H3.out
  go_wp2_with fail
  clear h3
  refine (awake_any _ HT.out).mono ?_
  rintro e w1 ⟨rfl, hb⟩
  go_wp2_with fail
  go_ret
  exact ⟨rfl, hb⟩

set_option maxHeartbeats 400000 in
theorem keyed_walk (k : Int) (s : ByteArray) (w : World) (hk : U64 k) (hs : s.size ≤ maxLen) (hT : Tab w) :
    Calls Tryd.prog 9 #[.int .u64 k, .string s] w fun e w' => e = .returned (.bool true) ∧ Below w.heap.size w w' := by
  have HT := Lib.hid hT
  clear hT
  have HS := Lib.hid hs
  clear hs
  by_cases h : 2000 < s.size
  · go_enter Tryd.func9, Tryd.ntmps9
    go_wp2_with fail
    refine (awake_any _ (HT.out)).mono ?_
    rintro e w1 ⟨rfl, hb⟩
    go_wp2_with fail
    go_ret
    exact ⟨rfl, hb⟩
  · go_enter Tryd.func9, Tryd.ntmps9
    go_wp2_with fail
    refine (keyed_any _ _ _ hk HS.out).mono ?_
    rintro e w' ⟨rfl, rfl⟩
    go_wp2_with fail
    refine (keyedR_any _ _ _ hk HS.out).mono ?_
    rintro e w' ⟨rfl, rfl⟩
    go_wp2_with fail
    refine (chain_any _ _ _ HS.out).mono ?_
    rintro e w' ⟨rfl, rfl⟩
    go_wp2_with fail
    refine (chainR_any _ _ _ HS.out).mono ?_
    rintro e w' ⟨rfl, rfl⟩
    go_wp2_with fail
    refine (awake_any _ (HT.out)).mono ?_
    rintro e w1 ⟨rfl, hb⟩
    go_wp2_with fail
    go_ret
    exact ⟨rfl, hb⟩

theorem hex_back {n : Nat} (h : n < 18446744073709551616) : parseX (hexL 16 n) = (n : Int) ∧ parseE (hexL 16 n) = 0 := by
  have e : parseL (hexL 16 n) 0 = some n := by rw [parse_hexL, Nat.mod_eq_of_lt (by omega)]
  unfold parseX parseE
  rw [if_pos (hexL_len 16 n), e, if_pos ⟨hexL_len 16 n, rfl⟩]
  exact ⟨rfl, rfl⟩
theorem parse_cases (s : ByteArray) : (parseX s.data.toList = 0 ∧ parseE s.data.toList = 1) ∨
    ∃ y : Nat, y < 18446744073709551616 ∧ parseX s.data.toList = (y : Int) ∧ parseE s.data.toList = 0 ∧ (⟨(hexL 16 y).toArray⟩ : ByteArray) = s := by
  by_cases h : s.size = 16
  · cases hp : parseL s.data.toList 0 with
    | none => exact .inl (parse_none h hp)
    | some y =>
      have hl : s.data.toList.length = 16 := by simpa using h
      have h1 := parseL_lt hp
      have h2 := parseL_hex hp
      rw [hl] at h1 h2
      refine .inr ⟨y, by omega, (parse_some h hp).1, (parse_some h hp).2, ?_⟩
      rw [h2]
  · exact .inl (parse_short h)
set_option maxHeartbeats 400000 in
theorem hexes_walk (n : Nat) (w : World) (hn : n < 18446744073709551616) (hT : Tab w) :
    Calls Tryd.prog 7 #[.int .u64 (n : Int)] w fun e w' => e = .returned (.bool true) ∧ Below w.heap.size w w' := by
  have HT := Lib.hid hT
  clear hT
  have HN := Lib.hid hn
  clear hn
  have hp := fun W => parse_any ⟨(hexL 16 n).toArray⟩ W
  rw [show parseX (⟨(hexL 16 n).toArray⟩ : ByteArray).data.toList = (n : Int) from (hex_back HN.out).1, show parseE (⟨(hexL 16 n).toArray⟩ : ByteArray).data.toList = 0 from (hex_back HN.out).2] at hp
  have HP := Lib.hid hp
  clear hp
  go_enter Tryd.func7, Tryd.ntmps7
  go_wp2_with fail
  refine (hex_any _ _ HN.out HT.out).mono ?_
  rintro e w1 ⟨rfl, hb⟩
  go_wp2_with fail
  refine (HP.out _).mono ?_
  rintro e w' ⟨rfl, rfl⟩
  go_wp2_with fail
  refine (hexR_any _ _ HN.out).mono ?_
  rintro e w' ⟨rfl, rfl⟩
  go_wp2_with fail
  refine (awake_any _ (HT.out.below hb)).mono ?_
  rintro e w2 ⟨rfl, hb2⟩
  go_wp2_with fail
  go_ret
  exact ⟨rfl, hb.trans (hb2.mono hb.size)⟩

set_option maxHeartbeats 400000 in
theorem parses_walk (s : ByteArray) (w : World)  (hT : Tab w) :
    Calls Tryd.prog 8 #[.string s] w fun e w' => e = .returned (.bool true) ∧ Below w.heap.size w w' := by
  have HT := Lib.hid hT
  clear hT
  by_cases h : 2000 < s.size
  · go_enter Tryd.func8, Tryd.ntmps8
    go_wp2_with fail
    refine (awake_any _ (HT.out)).mono ?_
    rintro e w1 ⟨rfl, hb⟩
    go_wp2_with fail
    go_ret
    exact ⟨rfl, hb⟩
  · rcases parse_cases s with ⟨hx, he⟩ | ⟨y, hy, hx, he, hh⟩
    · have HX := Lib.hid hx
      have HE := Lib.hid he
      clear hx he
      go_enter Tryd.func8, Tryd.ntmps8
      go_wp2_with fail
      refine (parse_any _ _).mono ?_
      rintro e w' ⟨rfl, rfl⟩
      rw [HX.out, HE.out]
      go_wp2_with fail
      refine (parseR_any _ _).mono ?_
      rintro e w' ⟨rfl, rfl⟩
      rw [HX.out, HE.out]
      go_wp2_with fail
      refine (awake_any _ (HT.out)).mono ?_
      rintro e w1 ⟨rfl, hb⟩
      go_wp2_with fail
      go_ret
      exact ⟨rfl, hb⟩
    · have HX := Lib.hid hx
      have HE := Lib.hid he
      have HH := Lib.hid hh
      have HY := Lib.hid hy
      clear hx he hh hy
      go_enter Tryd.func8, Tryd.ntmps8
      go_wp2_with fail
      refine (parse_any _ _).mono ?_
      rintro e w' ⟨rfl, rfl⟩
      rw [HX.out, HE.out]
      go_wp2_with fail
      refine (parseR_any _ _).mono ?_
      rintro e w' ⟨rfl, rfl⟩
      rw [HX.out, HE.out]
      go_wp2_with fail
      refine (hex_any _ _ HY.out HT.out).mono ?_
      rintro e w1 ⟨rfl, hb⟩
      rw [HH.out]
      go_wp2_with fail
      refine (awake_any _ (HT.out.below hb)).mono ?_
      rintro e w2 ⟨rfl, hb2⟩
      go_wp2_with fail
      go_ret
      exact ⟨rfl, hb.trans (hb2.mono hb.size)⟩
end Go.Proofs.YtkgpdfabkfbdpaaDoor.Dg
