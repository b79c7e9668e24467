/-
  The law CommitmentOrders: the walk. Conditions: the lists lie in memory.
-/
import Derived.Test.YtdgekhbmcmojdaaCmRun
import Derived.Test.YtdgekhbmcmojdaaDgWalks
namespace Go.Proofs.Ytdgekhbmcmojdaa.Cm
open Go.RowKit Go.Proofs.Ytdgekhbmcmojdaa.Mem Go.Proofs.Ytdgekhbmcmojdaa.Dg Go.Proofs.Ytdgekhbmcmojdaa.Mp
theorem mod_small {z n : Nat} (hn : 1 ≤ n) : ∃ r : Nat, ((z : Int).tmod (n : Int) = (r : Int) ∧ (z : Int) % (n : Int) = (r : Int)) ∧ r < n := by
  refine ⟨z % n, ⟨?_, ?_⟩, Nat.mod_lt _ (by omega)⟩
  · rw [Int.tmod_eq_emod_of_nonneg (by omega), Int.natCast_emod]
  · rw [Int.natCast_emod]
theorem seed_on {vs : Nat → Int} {op : Nat → Bool} {i : Nat} (h : op i = true) : seedP vs op (i + 1) = mixI (bits .xor .u64 (seedP vs op i) (vs i)) ∧ anyP op (i + 1) = true := ⟨by rw [seedP, if_pos h], by rw [anyP, h, Bool.or_true]⟩
theorem seed_off {vs : Nat → Int} {op : Nat → Bool} {i : Nat} (h : op i = false) : seedP vs op (i + 1) = seedP vs op i ∧ anyP op (i + 1) = anyP op i := ⟨by rw [seedP, if_neg (by rw [h]; decide)], by rw [anyP, h, Bool.or_false]⟩
set_option maxRecDepth 100000 in
set_option maxHeartbeats 8000000 in
theorem orders_false (xs : List Int) (os : List Bool) (A B : Option Addr) (n c m c2 z : Nat) (w : World) (hs : Sl w 1 A n (u64s xs)) (hb : Sl w 1 B m (bools os)) (hu : ∀ z ∈ xs, U64 z) (h1 : 1 ≤ n) (h8 : n ≤ 8) (hz : z < 256) (ha : anyP (fo os) n = false) :
    Calls Try.prog 6 #[.slice A n c, .slice B m c2, .int .u8 (z : Int)] w fun e w' => e = .returned (.bool true) ∧ Below w.heap.size w w' := by
  have HS := Lib.hid hs
  have HB := Lib.hid hb
  obtain ⟨sp, hsp⟩ : ∃ sp, seedP (fv xs) (fo os) n = sp := ⟨_, rfl⟩
  have HSP := Lib.hid hsp
  have HC : Hid (∀ (W : World) (f : Nat), Below w.heap.size w W → f < n → Calls Try.prog 28 #[.slice A n c, .slice B m c2, .int .i64 (f : Int)] W fun e w' => e = .returned (.tuple #[.int .u64 0, .int .i64 23]) ∧ Below W.heap.size W w') := Lib.hid (fun W f hW hf => by
    have := run_any xs os A B n c m c2 f W (hs.below hW (Nat.le_refl _)) (hb.below hW (Nat.le_refl _)) hu h1 h8 hf
    unfold runS runE at this
    rw [ha] at this
    skip
    exact this)
  have HC0 : Hid (∀ (W : World), Below w.heap.size w W → Calls Try.prog 28 #[.slice A n c, .slice B m c2, .int .i64 0] W fun e w' => e = .returned (.tuple #[.int .u64 0, .int .i64 23]) ∧ Below W.heap.size W w') := Lib.hid (fun W hW => HC.out W 0 hW (by omega))
  have HA := Lib.hid ha
  have H1 := Lib.hid h1
  obtain ⟨r, ⟨hr1, hr2⟩, hr⟩ := mod_small (z := z) h1
  have HR := Lib.hid hr
  have n1 : decide ((n : Int) < 1) = false := by simp; omega
  have n8 : decide ((8 : Int) < (n : Int)) = false := by simp; omega
  have n1' : (1 : Int) ≤ (n : Int) := by omega
  have n8' : (n : Int) ≤ 8 := by omega
  have hn0 : (n : Int) ≠ 0 := by omega
  clear hs hb hu ha hsp hr
  go_enter Try.func6, Try.ntmps6
  go_wp2_with fail
  go_loop [7, 8, 9] (fun x q j => ∃ (i : Nat) (y : Int) (b : Bool), i ≤ n ∧ j = .int .i64 i ∧ x = .int .u64 y ∧ q = .bool b ∧ Hid (y = seedP (fv xs) (fo os) i ∧ b = anyP (fo os) i)) (fun _ _ j => n - (intOf j).toNat)
  case atStart => exact ⟨0, 0, false, by omega, rfl, rfl, rfl, rfl, rfl⟩
  case round =>
    obtain ⟨i, y, b, hi, rfl, rfl, rfl, HY⟩ := hrel
    by_cases hlt : i < n
    · have hlti : (i : Int) < (n : Int) := by omega
      have h0i : (0 : Int) ≤ (i : Int) := by omega
      by_cases him : i < m
      · have hmi : (i : Int) < (m : Int) := by omega
        obtain ⟨b2, o2, rfl, qb⟩ := bools_at HB.out him
        cases ho : fo os i with
        | true =>
          rw [ho] at qb
          obtain ⟨b1, o1, rfl, qv⟩ := u64s_at HS.out hlt
          have HST := Lib.hid (seed_on (vs := fv xs) ho)
          clear ho hr1 hr2
          go_wp2_with fail
          refine (mix_any _ _ (xor_is_u64 _ _)).mono ?_
          rintro e w' ⟨rfl, rfl⟩
          go_wp2_with fail
          go_round
          case rel => exact ⟨i + 1, _, true, by omega, by go_num, rfl, rfl, by rw [HST.out.1, ← HY.out.1], by rw [HST.out.2]⟩
          case measure => simp [intOf]; omega
        | false =>
          rw [ho] at qb
          have HST := Lib.hid (seed_off (vs := fv xs) ho)
          clear ho hr1 hr2
          go_wp2_with fail
          go_round
          case rel => exact ⟨i + 1, _, b, by omega, by go_num, rfl, rfl, by rw [HST.out.1]; exact HY.out.1, by rw [HST.out.2]; exact HY.out.2⟩
          case measure => simp [intOf]; omega
      · have hmi : (m : Int) ≤ (i : Int) := by omega
        have tm : decide ((i : Int) < (m : Int)) = false := by simp; omega
        have HST := Lib.hid (seed_off (vs := fv xs) (fo_no HB.out him))
        clear hr1 hr2
        go_wp2_with fail
        go_round
        case rel => exact ⟨i + 1, _, b, by omega, by go_num, rfl, rfl, by rw [HST.out.1]; exact HY.out.1, by rw [HST.out.2]; exact HY.out.2⟩
        case measure => simp [intOf]; omega
    · obtain rfl : i = n := by omega
      obtain rfl : y = sp := by rw [HY.out.1]; exact HSP.out
      obtain rfl : b = false := by rw [HY.out.2]; exact HA.out
      clear HY
      go_wp2_with fail
      refine (HC0.out _ (Below.refl _ _)).mono ?_
      rintro e v1 ⟨rfl, b1⟩
      have B1 := Lib.hid b1
      clear b1
      go_wp2_with fail
      try simp only [hr1, hr2]
      refine (HC.out _ r B1.out HR.out).mono ?_
      rintro e v2 ⟨rfl, b2⟩
      have B2 := Lib.hid (B1.out.trans (b2.mono B1.out.size))
      clear b2 B1
      go_wp2_with fail
      refine (awake27 _).mono ?_
      rintro e vz ⟨rfl, bz⟩
      have BZ := Lib.hid (B2.out.trans (bz.mono B2.out.size))
      clear bz
      go_wp2_with fail
      go_ret
      exact ⟨rfl, BZ.out⟩
set_option maxRecDepth 100000 in
set_option maxHeartbeats 8000000 in
theorem orders_true (xs : List Int) (os : List Bool) (A B : Option Addr) (n c m c2 z : Nat) (w : World) (hs : Sl w 1 A n (u64s xs)) (hb : Sl w 1 B m (bools os)) (hu : ∀ z ∈ xs, U64 z) (h1 : 1 ≤ n) (h8 : n ≤ 8) (hz : z < 256) (ha : anyP (fo os) n = true) :
    Calls Try.prog 6 #[.slice A n c, .slice B m c2, .int .u8 (z : Int)] w fun e w' => e = .returned (.bool true) ∧ Below w.heap.size w w' := by
  have HS := Lib.hid hs
  have HB := Lib.hid hb
  obtain ⟨sp, hsp⟩ : ∃ sp, seedP (fv xs) (fo os) n = sp := ⟨_, rfl⟩
  have HSP := Lib.hid hsp
  have HC : Hid (∀ (W : World) (f : Nat), Below w.heap.size w W → f < n → Calls Try.prog 28 #[.slice A n c, .slice B m c2, .int .i64 (f : Int)] W fun e w' => e = .returned (.tuple #[.int .u64 sp, .int .i64 0]) ∧ Below W.heap.size W w') := Lib.hid (fun W f hW hf => by
    have := run_any xs os A B n c m c2 f W (hs.below hW (Nat.le_refl _)) (hb.below hW (Nat.le_refl _)) hu h1 h8 hf
    unfold runS runE at this
    rw [ha] at this
    rw [hsp] at this
    exact this)
  have HC0 : Hid (∀ (W : World), Below w.heap.size w W → Calls Try.prog 28 #[.slice A n c, .slice B m c2, .int .i64 0] W fun e w' => e = .returned (.tuple #[.int .u64 sp, .int .i64 0]) ∧ Below W.heap.size W w') := Lib.hid (fun W hW => HC.out W 0 hW (by omega))
  have HA := Lib.hid ha
  have H1 := Lib.hid h1
  obtain ⟨r, ⟨hr1, hr2⟩, hr⟩ := mod_small (z := z) h1
  have HR := Lib.hid hr
  have n1 : decide ((n : Int) < 1) = false := by simp; omega
  have n8 : decide ((8 : Int) < (n : Int)) = false := by simp; omega
  have n1' : (1 : Int) ≤ (n : Int) := by omega
  have n8' : (n : Int) ≤ 8 := by omega
  have hn0 : (n : Int) ≠ 0 := by omega
  clear hs hb hu ha hsp hr
  go_enter Try.func6, Try.ntmps6
  go_wp2_with fail
  go_loop [7, 8, 9] (fun x q j => ∃ (i : Nat) (y : Int) (b : Bool), i ≤ n ∧ j = .int .i64 i ∧ x = .int .u64 y ∧ q = .bool b ∧ Hid (y = seedP (fv xs) (fo os) i ∧ b = anyP (fo os) i)) (fun _ _ j => n - (intOf j).toNat)
  case atStart => exact ⟨0, 0, false, by omega, rfl, rfl, rfl, rfl, rfl⟩
  case round =>
    obtain ⟨i, y, b, hi, rfl, rfl, rfl, HY⟩ := hrel
    by_cases hlt : i < n
    · have hlti : (i : Int) < (n : Int) := by omega
      have h0i : (0 : Int) ≤ (i : Int) := by omega
      by_cases him : i < m
      · have hmi : (i : Int) < (m : Int) := by omega
        obtain ⟨b2, o2, rfl, qb⟩ := bools_at HB.out him
        cases ho : fo os i with
        | true =>
          rw [ho] at qb
          obtain ⟨b1, o1, rfl, qv⟩ := u64s_at HS.out hlt
          have HST := Lib.hid (seed_on (vs := fv xs) ho)
          clear ho hr1 hr2
          go_wp2_with fail
          refine (mix_any _ _ (xor_is_u64 _ _)).mono ?_
          rintro e w' ⟨rfl, rfl⟩
          go_wp2_with fail
          go_round
          case rel => exact ⟨i + 1, _, true, by omega, by go_num, rfl, rfl, by rw [HST.out.1, ← HY.out.1], by rw [HST.out.2]⟩
          case measure => simp [intOf]; omega
        | false =>
          rw [ho] at qb
          have HST := Lib.hid (seed_off (vs := fv xs) ho)
          clear ho hr1 hr2
          go_wp2_with fail
          go_round
          case rel => exact ⟨i + 1, _, b, by omega, by go_num, rfl, rfl, by rw [HST.out.1]; exact HY.out.1, by rw [HST.out.2]; exact HY.out.2⟩
          case measure => simp [intOf]; omega
      · have hmi : (m : Int) ≤ (i : Int) := by omega
        have tm : decide ((i : Int) < (m : Int)) = false := by simp; omega
        have HST := Lib.hid (seed_off (vs := fv xs) (fo_no HB.out him))
        clear hr1 hr2
        go_wp2_with fail
        go_round
        case rel => exact ⟨i + 1, _, b, by omega, by go_num, rfl, rfl, by rw [HST.out.1]; exact HY.out.1, by rw [HST.out.2]; exact HY.out.2⟩
        case measure => simp [intOf]; omega
    · obtain rfl : i = n := by omega
      obtain rfl : y = sp := by rw [HY.out.1]; exact HSP.out
      obtain rfl : b = true := by rw [HY.out.2]; exact HA.out
      clear HY
      go_wp2_with fail
      refine (HC0.out _ (Below.refl _ _)).mono ?_
      rintro e v1 ⟨rfl, b1⟩
      have B1 := Lib.hid b1
      clear b1
      go_wp2_with fail
      try simp only [hr1, hr2]
      refine (HC.out _ r B1.out HR.out).mono ?_
      rintro e v2 ⟨rfl, b2⟩
      have B2 := Lib.hid (B1.out.trans (b2.mono B1.out.size))
      clear b2 B1
      go_wp2_with fail
      refine (awake27 _).mono ?_
      rintro e vz ⟨rfl, bz⟩
      have BZ := Lib.hid (B2.out.trans (bz.mono B2.out.size))
      clear bz
      go_wp2_with fail
      go_ret
      exact ⟨rfl, BZ.out⟩
set_option maxRecDepth 100000 in
set_option maxHeartbeats 8000000 in
theorem orders_walk (xs : List Int) (os : List Bool) (A B : Option Addr) (n c m c2 z : Nat) (w : World) (hs : Sl w 1 A n (u64s xs)) (hb : Sl w 1 B m (bools os)) (hu : ∀ z ∈ xs, U64 z) (hz : z < 256) :
    Calls Try.prog 6 #[.slice A n c, .slice B m c2, .int .u8 (z : Int)] w fun e w' => e = .returned (.bool true) ∧ Below w.heap.size w w' := by
  by_cases h1 : 1 ≤ n
  · by_cases h8 : n ≤ 8
    · cases ha : anyP (fo os) n with
      | false => exact orders_false xs os A B n c m c2 z w hs hb hu h1 h8 hz ha
      | true => exact orders_true xs os A B n c m c2 z w hs hb hu h1 h8 hz ha
    · have n1 : decide ((n : Int) < 1) = false := by simp; omega
      have n8 : decide ((8 : Int) < (n : Int)) = true := by simp; omega
      have n8' : (8 : Int) < (n : Int) := by omega
      have n1' : (1 : Int) ≤ (n : Int) := by omega
      clear hs hb hu h1 h8
      have B0 : Hid (Below w.heap.size w w) := Lib.hid (Below.refl _ _)
      go_enter Try.func6, Try.ntmps6
      go_wp2_with fail
      refine (awake27 _).mono ?_
      rintro e vz ⟨rfl, bz⟩
      have BZ := Lib.hid (B0.out.trans (bz.mono B0.out.size))
      clear bz
      go_wp2_with fail
      go_ret
      exact ⟨rfl, BZ.out⟩
  · obtain rfl : n = 0 := by omega
    clear hs hb hu h1
    have B0 : Hid (Below w.heap.size w w) := Lib.hid (Below.refl _ _)
    go_enter Try.func6, Try.ntmps6
    go_wp2_with fail
    refine (awake27 _).mono ?_
    rintro e vz ⟨rfl, bz⟩
    have BZ := Lib.hid (B0.out.trans (bz.mono B0.out.size))
    clear bz
    go_wp2_with fail
    go_ret
    exact ⟨rfl, BZ.out⟩
end Go.Proofs.Ytdgekhbmcmojdaa.Cm
