/-
  The law CommitmentBinds: the walk. Conditions: numbers of their kinds.
-/
import Derived.Test.YtdgekhbmcmojdaaCmA
import Derived.Test.YtdgekhbmcmojdaaCmR3
import Derived.Test.YtdgekhbmcmojdaaReg
namespace Go.Proofs.Ytdgekhbmcmojdaa.Cm
open Go.RowKit Go.Proofs.Ytdgekhbmcmojdaa.Mem Go.Proofs.Ytdgekhbmcmojdaa.Dg Go.Proofs.Ytdgekhbmcmojdaa.Mp
attribute [local go_sem ↓] exec_load_rv exec_store_rv exec_load_tx
theorem turn_val {k x n t : Int} (hx : U64 x) (ht : U64 t) (h : ¬ t = 0) : ¬ digI k (bits .xor .u64 x t) n = digI k x n := by
  rw [digI_val (xor_is_u64 _ _) hx, xor_self_iff hx ht]
  exact h
theorem turn_nonce {k x n t : Int} (hn : U64 n) (ht : U64 t) (h : ¬ t = 0) : ¬ digI k x (bits .xor .u64 n t) = digI k x n := by
  rw [digI_nonce (xor_is_u64 _ _) hn, xor_self_iff hn ht]
  exact h
theorem party_of (p : Int) : ∃ m, (IntKind.u64.wrap p).tmod 8 = m ∧ 0 ≤ m ∧ m < 8 := by
  refine ⟨_, rfl, ?_⟩
  have h := (wrap_is_u64 p).1
  rw [Int.tmod_eq_emod_of_nonneg h]
  omega
set_option maxRecDepth 100000 in
set_option maxHeartbeats 4000000 in
theorem binds_walk (x n t p : Int) (w : World) (hx : U64 x) (hn : U64 n) (ht : U64 t) :
    Calls Try.prog 5 #[.int .u64 x, .int .u64 n, .int .u64 t, .int .i64 p] w fun e w' => e = .returned (.bool true) ∧ Below w.heap.size w w' := by
  obtain ⟨m, hm, m0, m8⟩ := party_of p
  have e1 : wrap64 m = m := IntWalk.wrap64_in m ⟨by omega, by omega⟩
  obtain ⟨k, hk⟩ : ∃ k, k = 1 + m := ⟨_, rfl⟩
  have e2 : wrap64 (1 + m) = k := by rw [hk]; exact IntWalk.wrap64_in _ ⟨by omega, by omega⟩
  have K1 : Hid (1 ≤ k) := Lib.hid (by omega)
  have K8 : Hid (k ≤ 8) := Lib.hid (by omega)
  have KI : Hid (I64 k) := Lib.hid ⟨by omega, by omega⟩
  obtain ⟨dg, hd⟩ : ∃ dg, digI k x n = dg := ⟨_, rfl⟩
  have UD : Hid (U64 dg) := Lib.hid (by rw [← hd]; exact digI_u64 _ _ _)
  have HD := Lib.hid hd
  have HX := Lib.hid hx
  have HN := Lib.hid hn
  clear m0 m8 hk
  by_cases hz : t = 0
  · have tz : (t != 0) = false := by simp [hz]
    clear hd hx hn ht hz
    go_enter Try.func5, Try.ntmps5
    have BE_0 : Hid (Below w.heap.size w w) := Lib.hid (Below.refl _ _)
    obtain ⟨g1, hg1⟩ : ∃ g1, g1 = w.heap.size := ⟨_, rfl⟩
    have kz : Blk (w.alloc (.cells #[.int .i64 0, .int .u64 0, .int .u64 0] 24)) w.heap.size 24 #[.int .i64 0, .int .u64 0, .int .u64 0] := Blk.new _ _ _
    have st1 := store_rv (cs := #[.int .i64 k, .int .u64 x, .int .u64 n]) kz rfl rfl rfl
    obtain ⟨W1, hW1⟩ : ∃ W1, W1 = World.setRow (w.alloc (.cells #[.int .i64 0, .int .u64 0, .int .u64 0] 24)) w.heap.size #[.int .i64 k, .int .u64 x, .int .u64 n] := ⟨_, rfl⟩
    have F : Below w.heap.size w W1 := by rw [hW1]; exact bel_setRow ((Below.refl _ _).alloc (Nat.le_refl _) _) (Nat.le_refl _) _
    have BE_1 := Lib.hid (BE_0.out.trans (F.mono BE_0.out.size))
    clear BE_0
    have KR_0 : Hid (Blk W1 g1 24 #[.int .i64 k, .int .u64 x, .int .u64 n]) := by rw [hW1, hg1]; exact Blk_setRow kz _
    rw [← hW1] at st1
    clear hW1 kz F
    go_wp2_with fail
    clear st1
    rw [← hg1]
    clear hg1
    rw [e2]
    try rw [e1]
    clear hm e1 e2
    refine (new_to _ (by omega) (by omega) (by omega) (by omega)).mono ?_
    rintro e v0 ⟨g, d, v, rfl, c0, o0, b0⟩
    have nKR : Hid (¬ own3 g d v g1) := Lib.hid (fun hk => by have := o0 g1 hk; have := KR_0.out.lt; omega)
    have hno : Hid (∀ i, i < w.heap.size → ¬ own3 g d v i) := Lib.hid (fun i hi hk => by have := o0 i hk; have := BE_1.out.size; omega)
    have BE_2 := Lib.hid (BE_1.out.trans (b0.mono BE_1.out.size))
    have KR_1 := Lib.hid (KR_0.out.below b0 KR_0.out.lt)
    clear BE_1 KR_0
    have C_0 := Lib.hid (c0)
    clear c0 o0 b0
    have ld : (loadRow 24 (.pointer (some ⟨g1, 0, none⟩))).run Try.prog v0 = .ok (.agg #[.int .i64 k, .int .u64 x, .int .u64 n]) v0 := load_rv KR_1.out rfl
    go_wp2_with fail
    clear ld
    refine (digest_any k x n _ HN.out).mono ?_
    rintro e v2 ⟨rfl, b2⟩
    have BE_3 := Lib.hid (BE_2.out.trans (b2.mono BE_2.out.size))
    have KR_2 := Lib.hid (KR_1.out.below b2 KR_1.out.lt)
    have C_1 := Lib.hid (C_0.out.below b2)
    clear BE_2 KR_1 C_0
    clear b2
    rw [HD.out]
    go_wp2_with fail
    refine (commit_to C_1.out KI.out UD.out (short (Nat.le_of_ble_eq_true rfl)) (b0_com K1.out K8.out)).mono ?_
    rintro e v3 ⟨rfl, c3, f3⟩
    have BE_4 := Lib.hid (BE_3.out.trans (f3.below BE_3.out.size hno.out))
    have KR_3 := Lib.hid (KR_2.out.frm f3 nKR.out)
    have C_2 := Lib.hid (c3)
    clear BE_3 KR_2 C_1
    clear c3 f3
    go_wp2_with fail
    refine (lock_to C_2.out b1_lock).mono ?_
    rintro e v4 ⟨rfl, c4, f4⟩
    have BE_5 := Lib.hid (BE_4.out.trans (f4.below BE_4.out.size hno.out))
    have KR_4 := Lib.hid (KR_3.out.frm f4 nKR.out)
    have C_3 := Lib.hid (c4)
    clear BE_4 KR_3 C_2
    clear c4 f4
    go_wp2_with fail
    refine (missing_to C_3.out (b2_ok K1.out K8.out UD.out) (b2_missing K1.out K8.out) rfl).mono ?_
    rintro e v5 ⟨A5, c5, rfl, s5, o5, b5⟩
    have nS1 := Lib.hid (C_3.out.farA o5)
    have BE_6 := Lib.hid (BE_5.out.trans (b5.mono BE_5.out.size))
    have KR_5 := Lib.hid (KR_4.out.below b5 KR_4.out.lt)
    have C_4 := Lib.hid (C_3.out.below b5)
    clear BE_5 KR_4 C_3
    have S1_0 := Lib.hid (s5)
    clear s5 o5 b5
    go_wp2_with fail
    have S : Hid (Sl (v5.alloc (.cells #[.int .i64 k] 3)) 1 (some ⟨v5.heap.size, 0, none⟩) 1 (ints [k])) := Lib.hid (new_ints v5 [k] _ 1 _ rfl rfl)
    have F : Below v5.heap.size v5 (v5.alloc (.cells #[.int .i64 k] 3)) := (Below.refl _ _).alloc (Nat.le_refl _) _
    have BE_7 := Lib.hid (BE_6.out.trans (F.mono BE_6.out.size))
    have KR_6 := Lib.hid (KR_5.out.below F KR_5.out.lt)
    have C_5 := Lib.hid (C_4.out.below F)
    have S1_1 := Lib.hid (S1_0.out.below F (Nat.le_refl _))
    clear BE_6 KR_5 C_4 S1_0
    refine (ints_yes [k] 1 1 A5 _ c5 1 _ S1_1.out S.out (by omega)).mono ?_
    rintro e vi ⟨rfl, bi⟩
    have BE_8 := Lib.hid (BE_7.out.trans (bi.mono BE_7.out.size))
    have KR_7 := Lib.hid (KR_6.out.below bi KR_6.out.lt)
    have C_6 := Lib.hid (C_5.out.below bi)
    have S1_2 := Lib.hid (S1_1.out.below bi (Nat.le_refl _))
    clear BE_7 KR_6 C_5 S1_1
    clear S F bi
    have ld : (loadRow 24 (.pointer (some ⟨g1, 0, none⟩))).run Try.prog vi = .ok (.agg #[.int .i64 k, .int .u64 x, .int .u64 n]) vi := load_rv KR_7.out rfl
    go_wp2_with fail
    clear ld
    refine (reveal_to C_6.out KI.out HX.out HN.out (short (Nat.le_of_ble_eq_true rfl)) (b2_rev K1.out K8.out HD.out)).mono ?_
    rintro e v6 ⟨rfl, c6, f6⟩
    have BE_9 := Lib.hid (BE_8.out.trans (f6.below BE_8.out.size hno.out))
    have KR_8 := Lib.hid (KR_7.out.frm f6 nKR.out)
    have C_7 := Lib.hid (c6)
    clear BE_8 KR_7 C_6
    clear c6 f6
    go_wp2_with fail
    refine (missing_to C_7.out (b3_ok K1.out K8.out UD.out HX.out) (b3_missing K1.out K8.out) rfl).mono ?_
    rintro e v7 ⟨A7, c7, rfl, s7, o7, b7⟩
    have nS3 := Lib.hid (C_7.out.farA o7)
    have BE_10 := Lib.hid (BE_9.out.trans (b7.mono BE_9.out.size))
    have KR_9 := Lib.hid (KR_8.out.below b7 KR_8.out.lt)
    have C_8 := Lib.hid (C_7.out.below b7)
    clear BE_9 KR_8 C_7
    have S3_0 := Lib.hid (s7)
    clear s7 o7 b7
    go_wp2_with fail
    refine (awake27 _).mono ?_
    rintro e vz ⟨rfl, bz⟩
    have BE_11 := Lib.hid (BE_10.out.trans (bz.mono BE_10.out.size))
    clear BE_10
    go_wp2_with fail
    go_ret
    exact ⟨rfl, BE_11.out⟩
  · have tz : (t != 0) = true := by simp [hz]
    have V1 : Hid (¬ digI k (bits .xor .u64 x t) n = dg) := Lib.hid (by rw [← hd]; exact turn_val hx ht hz)
    have V2 : Hid (¬ digI k x (bits .xor .u64 n t) = dg) := Lib.hid (by rw [← hd]; exact turn_nonce hn ht hz)
    clear hd hx hn ht hz
    go_enter Try.func5, Try.ntmps5
    have BE_0 : Hid (Below w.heap.size w w) := Lib.hid (Below.refl _ _)
    obtain ⟨g1, hg1⟩ : ∃ g1, g1 = w.heap.size := ⟨_, rfl⟩
    have kz : Blk (w.alloc (.cells #[.int .i64 0, .int .u64 0, .int .u64 0] 24)) w.heap.size 24 #[.int .i64 0, .int .u64 0, .int .u64 0] := Blk.new _ _ _
    have st1 := store_rv (cs := #[.int .i64 k, .int .u64 x, .int .u64 n]) kz rfl rfl rfl
    obtain ⟨W1, hW1⟩ : ∃ W1, W1 = World.setRow (w.alloc (.cells #[.int .i64 0, .int .u64 0, .int .u64 0] 24)) w.heap.size #[.int .i64 k, .int .u64 x, .int .u64 n] := ⟨_, rfl⟩
    have F : Below w.heap.size w W1 := by rw [hW1]; exact bel_setRow ((Below.refl _ _).alloc (Nat.le_refl _) _) (Nat.le_refl _) _
    have BE_1 := Lib.hid (BE_0.out.trans (F.mono BE_0.out.size))
    clear BE_0
    have KR_0 : Hid (Blk W1 g1 24 #[.int .i64 k, .int .u64 x, .int .u64 n]) := by rw [hW1, hg1]; exact Blk_setRow kz _
    rw [← hW1] at st1
    clear hW1 kz F
    go_wp2_with fail
    clear st1
    rw [← hg1]
    clear hg1
    rw [e2]
    try rw [e1]
    clear hm e1 e2
    refine (new_to _ (by omega) (by omega) (by omega) (by omega)).mono ?_
    rintro e v0 ⟨g, d, v, rfl, c0, o0, b0⟩
    have nKR : Hid (¬ own3 g d v g1) := Lib.hid (fun hk => by have := o0 g1 hk; have := KR_0.out.lt; omega)
    have hno : Hid (∀ i, i < w.heap.size → ¬ own3 g d v i) := Lib.hid (fun i hi hk => by have := o0 i hk; have := BE_1.out.size; omega)
    have BE_2 := Lib.hid (BE_1.out.trans (b0.mono BE_1.out.size))
    have KR_1 := Lib.hid (KR_0.out.below b0 KR_0.out.lt)
    clear BE_1 KR_0
    have C_0 := Lib.hid (c0)
    clear c0 o0 b0
    have ld : (loadRow 24 (.pointer (some ⟨g1, 0, none⟩))).run Try.prog v0 = .ok (.agg #[.int .i64 k, .int .u64 x, .int .u64 n]) v0 := load_rv KR_1.out rfl
    go_wp2_with fail
    clear ld
    refine (digest_any k x n _ HN.out).mono ?_
    rintro e v2 ⟨rfl, b2⟩
    have BE_3 := Lib.hid (BE_2.out.trans (b2.mono BE_2.out.size))
    have KR_2 := Lib.hid (KR_1.out.below b2 KR_1.out.lt)
    have C_1 := Lib.hid (C_0.out.below b2)
    clear BE_2 KR_1 C_0
    clear b2
    rw [HD.out]
    go_wp2_with fail
    refine (commit_to C_1.out KI.out UD.out (short (Nat.le_of_ble_eq_true rfl)) (b0_com K1.out K8.out)).mono ?_
    rintro e v3 ⟨rfl, c3, f3⟩
    have BE_4 := Lib.hid (BE_3.out.trans (f3.below BE_3.out.size hno.out))
    have KR_3 := Lib.hid (KR_2.out.frm f3 nKR.out)
    have C_2 := Lib.hid (c3)
    clear BE_3 KR_2 C_1
    clear c3 f3
    go_wp2_with fail
    refine (lock_to C_2.out b1_lock).mono ?_
    rintro e v4 ⟨rfl, c4, f4⟩
    have BE_5 := Lib.hid (BE_4.out.trans (f4.below BE_4.out.size hno.out))
    have KR_4 := Lib.hid (KR_3.out.frm f4 nKR.out)
    have C_3 := Lib.hid (c4)
    clear BE_4 KR_3 C_2
    clear c4 f4
    go_wp2_with fail
    refine (reveal_to C_3.out KI.out (xor_is_u64 _ _) HN.out (short (Nat.le_of_ble_eq_true rfl)) (b2_wrong K1.out K8.out V1.out)).mono ?_
    rintro e v5 ⟨rfl, c5, f5⟩
    have BE_6 := Lib.hid (BE_5.out.trans (f5.below BE_5.out.size hno.out))
    have KR_5 := Lib.hid (KR_4.out.frm f5 nKR.out)
    have C_4 := Lib.hid (c5)
    clear BE_5 KR_4 C_3
    clear c5 f5
    go_wp2_with fail
    refine (reveal_to C_4.out KI.out HX.out (xor_is_u64 _ _) (short (Nat.le_of_ble_eq_true rfl)) (b2_wrong K1.out K8.out V2.out)).mono ?_
    rintro e v6 ⟨rfl, c6, f6⟩
    have BE_7 := Lib.hid (BE_6.out.trans (f6.below BE_6.out.size hno.out))
    have KR_6 := Lib.hid (KR_5.out.frm f6 nKR.out)
    have C_5 := Lib.hid (c6)
    clear BE_6 KR_5 C_4
    clear c6 f6
    go_wp2_with fail
    refine (missing_to C_5.out (b2_ok K1.out K8.out UD.out) (b2_missing K1.out K8.out) rfl).mono ?_
    rintro e v7 ⟨A7, c7, rfl, s7, o7, b7⟩
    have nS1 := Lib.hid (C_5.out.farA o7)
    have BE_8 := Lib.hid (BE_7.out.trans (b7.mono BE_7.out.size))
    have KR_7 := Lib.hid (KR_6.out.below b7 KR_6.out.lt)
    have C_6 := Lib.hid (C_5.out.below b7)
    clear BE_7 KR_6 C_5
    have S1_0 := Lib.hid (s7)
    clear s7 o7 b7
    go_wp2_with fail
    have S : Hid (Sl (v7.alloc (.cells #[.int .i64 k] 3)) 1 (some ⟨v7.heap.size, 0, none⟩) 1 (ints [k])) := Lib.hid (new_ints v7 [k] _ 1 _ rfl rfl)
    have F : Below v7.heap.size v7 (v7.alloc (.cells #[.int .i64 k] 3)) := (Below.refl _ _).alloc (Nat.le_refl _) _
    have BE_9 := Lib.hid (BE_8.out.trans (F.mono BE_8.out.size))
    have KR_8 := Lib.hid (KR_7.out.below F KR_7.out.lt)
    have C_7 := Lib.hid (C_6.out.below F)
    have S1_1 := Lib.hid (S1_0.out.below F (Nat.le_refl _))
    clear BE_8 KR_7 C_6 S1_0
    refine (ints_yes [k] 1 1 A7 _ c7 1 _ S1_1.out S.out (by omega)).mono ?_
    rintro e vi ⟨rfl, bi⟩
    have BE_10 := Lib.hid (BE_9.out.trans (bi.mono BE_9.out.size))
    have KR_9 := Lib.hid (KR_8.out.below bi KR_8.out.lt)
    have C_8 := Lib.hid (C_7.out.below bi)
    have S1_2 := Lib.hid (S1_1.out.below bi (Nat.le_refl _))
    clear BE_9 KR_8 C_7 S1_1
    clear S F bi
    have ld : (loadRow 24 (.pointer (some ⟨g1, 0, none⟩))).run Try.prog vi = .ok (.agg #[.int .i64 k, .int .u64 x, .int .u64 n]) vi := load_rv KR_9.out rfl
    go_wp2_with fail
    clear ld
    refine (reveal_to C_8.out KI.out HX.out HN.out (short (Nat.le_of_ble_eq_true rfl)) (b2_rev K1.out K8.out HD.out)).mono ?_
    rintro e v8 ⟨rfl, c8, f8⟩
    have BE_11 := Lib.hid (BE_10.out.trans (f8.below BE_10.out.size hno.out))
    have KR_10 := Lib.hid (KR_9.out.frm f8 nKR.out)
    have C_9 := Lib.hid (c8)
    clear BE_10 KR_9 C_8
    clear c8 f8
    go_wp2_with fail
    refine (missing_to C_9.out (b3_ok K1.out K8.out UD.out HX.out) (b3_missing K1.out K8.out) rfl).mono ?_
    rintro e v9 ⟨A9, c9, rfl, s9, o9, b9⟩
    have nS3 := Lib.hid (C_9.out.farA o9)
    have BE_12 := Lib.hid (BE_11.out.trans (b9.mono BE_11.out.size))
    have KR_11 := Lib.hid (KR_10.out.below b9 KR_10.out.lt)
    have C_10 := Lib.hid (C_9.out.below b9)
    clear BE_11 KR_10 C_9
    have S3_0 := Lib.hid (s9)
    clear s9 o9 b9
    go_wp2_with fail
    refine (awake27 _).mono ?_
    rintro e vz ⟨rfl, bz⟩
    have BE_13 := Lib.hid (BE_12.out.trans (bz.mono BE_12.out.size))
    clear BE_12
    go_wp2_with fail
    go_ret
    exact ⟨rfl, BE_13.out⟩
end Go.Proofs.Ytdgekhbmcmojdaa.Cm
