/-
  The examples of chapter 27 hold ('awake'): the walk. No conditions.
-/
import Derived.Test.YtdgekhbmcmojdaaCmC
import Derived.Test.YtdgekhbmcmojdaaDgWalks
import Derived.Test.YtdgekhbmcmojdaaReg
namespace Go.Proofs.Ytdgekhbmcmojdaa.Cm
open Go.RowKit Go.Proofs.Ytdgekhbmcmojdaa.Mem Go.Proofs.Ytdgekhbmcmojdaa.Dg Go.Proofs.Ytdgekhbmcmojdaa.Mp Go.Proofs.Ytdgekhbmcmojdaa.Cm
attribute [local go_sem ↓] exec_load_rv exec_store_rv
set_option maxRecDepth 100000 in
set_option maxHeartbeats 4000000 in
theorem awake27 (w : World) : Calls Try.prog 13 #[] w fun e w' => e = .returned (.bool true) ∧ Below w.heap.size w w' := by
  obtain ⟨d1, e1⟩ : ∃ d1, digI 1 5 6 = d1 := ⟨_, rfl⟩
  obtain ⟨d3, e3⟩ : ∃ d3, digI 3 7 8 = d3 := ⟨_, rfl⟩
  have U1 : Hid (U64 d1) := by rw [← e1]; exact digI_u64 _ _ _
  have U3 : Hid (U64 d3) := by rw [← e3]; exact digI_u64 _ _ _
  have EW : Hid (¬ digI 1 6 6 = d1) := by rw [← e1]; exact one_wrong
  have E1 := Lib.hid e1
  have E3 := Lib.hid e3
  clear e1 e3
  have h00 := fun W => new_no 0 0 W rfl
  go_enter Try.func13, Try.ntmps13
  go_wp2_with fail
  refine (h00 _).mono ?_
  rintro e w' ⟨rfl, rfl⟩
  clear h00
  go_wp2_with fail
  refine (new_to _ (by omega) (by omega) (by omega) (by omega)).mono ?_
  rintro e v0 ⟨g, d, v, rfl, c0, o0, b0⟩
  have hno : Hid (∀ i, i < w.heap.size → ¬ own3 g d v i) := fun i hi hk => by have := o0 i hk; omega
  have C_0 := Lib.hid (c0)
  have BE_0 := Lib.hid (b0)
  clear c0 o0 b0
  obtain ⟨g1, hg1⟩ : ∃ g1, g1 = v0.heap.size := ⟨_, rfl⟩
  have kz : Blk (v0.alloc (.cells #[.int .i64 0, .int .u64 0, .int .u64 0] 24)) v0.heap.size 24 #[.int .i64 0, .int .u64 0, .int .u64 0] := Blk.new _ _ _
  have st1 := store_rv (cs := #[.int .i64 1, .int .u64 5, .int .u64 6]) kz rfl rfl rfl
  obtain ⟨W1, hW1⟩ : ∃ W1, W1 = World.setRow (v0.alloc (.cells #[.int .i64 0, .int .u64 0, .int .u64 0] 24)) v0.heap.size #[.int .i64 1, .int .u64 5, .int .u64 6] := ⟨_, rfl⟩
  have F : Below v0.heap.size v0 W1 := by rw [hW1]; exact bel_setRow ((Below.refl _ _).alloc (Nat.le_refl _) _) (Nat.le_refl _) _
  have nK5 := Lib.hid (show ¬ own3 g d v g1 from by rw [hg1]; exact C_0.out.far)
  have C_1 := Lib.hid (C_0.out.below F)
  have BE_1 := Lib.hid (BE_0.out.trans (F.mono BE_0.out.size))
  clear C_0 BE_0
  have K5_0 : Hid (Blk W1 g1 24 #[.int .i64 1, .int .u64 5, .int .u64 6]) := by rw [hW1, hg1]; exact Blk_setRow kz _
  rw [← hW1] at st1
  clear hW1 kz F
  obtain ⟨g2, hg2⟩ : ∃ g2, g2 = W1.heap.size := ⟨_, rfl⟩
  have kz : Blk (W1.alloc (.cells #[.int .i64 0, .int .u64 0, .int .u64 0] 24)) W1.heap.size 24 #[.int .i64 0, .int .u64 0, .int .u64 0] := Blk.new _ _ _
  have st2 := store_rv (cs := #[.int .i64 3, .int .u64 7, .int .u64 8]) kz rfl rfl rfl
  obtain ⟨W2, hW2⟩ : ∃ W2, W2 = World.setRow (W1.alloc (.cells #[.int .i64 0, .int .u64 0, .int .u64 0] 24)) W1.heap.size #[.int .i64 3, .int .u64 7, .int .u64 8] := ⟨_, rfl⟩
  have F : Below W1.heap.size W1 W2 := by rw [hW2]; exact bel_setRow ((Below.refl _ _).alloc (Nat.le_refl _) _) (Nat.le_refl _) _
  have nK6 := Lib.hid (show ¬ own3 g d v g2 from by rw [hg2]; exact C_1.out.far)
  have C_2 := Lib.hid (C_1.out.below F)
  have BE_2 := Lib.hid (BE_1.out.trans (F.mono BE_1.out.size))
  have K5_1 := Lib.hid (K5_0.out.below F K5_0.out.lt)
  clear C_1 BE_1 K5_0
  have K6_0 : Hid (Blk W2 g2 24 #[.int .i64 3, .int .u64 7, .int .u64 8]) := by rw [hW2, hg2]; exact Blk_setRow kz _
  rw [← hW2] at st2
  clear hW2 kz F
  go_wp2_with fail
  clear st1 st2
  rw [← hg1]
  clear hg1
  rw [← hg2]
  clear hg2
  refine (seed_to C_2.out a0_ok a0_seed).mono ?_
  rintro e v3 ⟨rfl, b3⟩
  have C_3 := Lib.hid (C_2.out.below b3)
  have BE_3 := Lib.hid (BE_2.out.trans (b3.mono BE_2.out.size))
  have K5_2 := Lib.hid (K5_1.out.below b3 K5_1.out.lt)
  have K6_1 := Lib.hid (K6_0.out.below b3 K6_0.out.lt)
  clear C_2 BE_2 K5_1 K6_0
  clear b3
  go_wp2_with fail
  refine (missing_to C_3.out a0_ok a0_missing rfl).mono ?_
  rintro e v4 ⟨A4, c4, rfl, s4, o4, b4⟩
  have nS1 := Lib.hid (C_3.out.farA o4)
  have C_4 := Lib.hid (C_3.out.below b4)
  have BE_4 := Lib.hid (BE_3.out.trans (b4.mono BE_3.out.size))
  have K5_3 := Lib.hid (K5_2.out.below b4 K5_2.out.lt)
  have K6_2 := Lib.hid (K6_1.out.below b4 K6_1.out.lt)
  clear C_3 BE_3 K5_2 K6_1
  have S1_0 := Lib.hid (s4)
  clear s4 o4 b4
  have ld : (loadRow 24 (.pointer (some ⟨g1, 0, none⟩))).run Try.prog v4 = .ok (.agg #[.int .i64 1, .int .u64 5, .int .u64 6]) v4 := load_rv K5_3.out rfl
  go_wp2_with fail
  clear ld
  refine (digest_any 1 5 6 _ (by unfold U64; omega)).mono ?_
  rintro e v5 ⟨rfl, b5⟩
  have C_5 := Lib.hid (C_4.out.below b5)
  have BE_5 := Lib.hid (BE_4.out.trans (b5.mono BE_4.out.size))
  have K5_4 := Lib.hid (K5_3.out.below b5 K5_3.out.lt)
  have K6_3 := Lib.hid (K6_2.out.below b5 K6_2.out.lt)
  have S1_1 := Lib.hid (S1_0.out.below b5 (Nat.le_refl _))
  clear C_4 BE_4 K5_3 K6_2 S1_0
  clear b5
  rw [E1.out]
  go_wp2_with fail
  refine (commit_to C_5.out ⟨by omega, by omega⟩ U1.out (short (Nat.le_of_ble_eq_true rfl)) a0_com).mono ?_
  rintro e v6 ⟨rfl, c6, f6⟩
  have C_6 := Lib.hid (c6)
  have BE_6 := Lib.hid (BE_5.out.trans (f6.below BE_5.out.size hno.out))
  have K5_5 := Lib.hid (K5_4.out.frm f6 nK5.out)
  have K6_4 := Lib.hid (K6_3.out.frm f6 nK6.out)
  have S1_2 := Lib.hid (S1_1.out.frm f6 nS1.out)
  clear C_5 BE_5 K5_4 K6_3 S1_1
  clear c6 f6
  have ld : (loadRow 24 (.pointer (some ⟨g2, 0, none⟩))).run Try.prog v6 = .ok (.agg #[.int .i64 3, .int .u64 7, .int .u64 8]) v6 := load_rv K6_4.out rfl
  go_wp2_with fail
  clear ld
  refine (digest_any 3 7 8 _ (by unfold U64; omega)).mono ?_
  rintro e v7 ⟨rfl, b7⟩
  have C_7 := Lib.hid (C_6.out.below b7)
  have BE_7 := Lib.hid (BE_6.out.trans (b7.mono BE_6.out.size))
  have K5_6 := Lib.hid (K5_5.out.below b7 K5_5.out.lt)
  have K6_5 := Lib.hid (K6_4.out.below b7 K6_4.out.lt)
  have S1_3 := Lib.hid (S1_2.out.below b7 (Nat.le_refl _))
  clear C_6 BE_6 K5_5 K6_4 S1_2
  clear b7
  rw [E3.out]
  go_wp2_with fail
  refine (commit_to C_7.out ⟨by omega, by omega⟩ U3.out (short (Nat.le_of_ble_eq_true rfl)) a1_com).mono ?_
  rintro e v8 ⟨rfl, c8, f8⟩
  have C_8 := Lib.hid (c8)
  have BE_8 := Lib.hid (BE_7.out.trans (f8.below BE_7.out.size hno.out))
  have K5_7 := Lib.hid (K5_6.out.frm f8 nK5.out)
  have K6_6 := Lib.hid (K6_5.out.frm f8 nK6.out)
  have S1_4 := Lib.hid (S1_3.out.frm f8 nS1.out)
  clear C_7 BE_7 K5_6 K6_5 S1_3
  clear c8 f8
  go_wp2_with fail
  refine (commit_to C_8.out ⟨by omega, by omega⟩ (by unfold U64; omega) (short (Nat.le_of_ble_eq_true rfl)) a2_com).mono ?_
  rintro e v9 ⟨rfl, c9, f9⟩
  have C_9 := Lib.hid (c9)
  have BE_9 := Lib.hid (BE_8.out.trans (f9.below BE_8.out.size hno.out))
  have K5_8 := Lib.hid (K5_7.out.frm f9 nK5.out)
  have K6_7 := Lib.hid (K6_6.out.frm f9 nK6.out)
  have S1_5 := Lib.hid (S1_4.out.frm f9 nS1.out)
  clear C_8 BE_8 K5_7 K6_6 S1_4
  clear c9 f9
  go_wp2_with fail
  refine (commit_to C_9.out ⟨by omega, by omega⟩ (by unfold U64; omega) (short (Nat.le_of_ble_eq_true rfl)) a2_com4).mono ?_
  rintro e v10 ⟨rfl, c10, f10⟩
  have C_10 := Lib.hid (c10)
  have BE_10 := Lib.hid (BE_9.out.trans (f10.below BE_9.out.size hno.out))
  have K5_9 := Lib.hid (K5_8.out.frm f10 nK5.out)
  have K6_8 := Lib.hid (K6_7.out.frm f10 nK6.out)
  have S1_6 := Lib.hid (S1_5.out.frm f10 nS1.out)
  clear C_9 BE_9 K5_8 K6_7 S1_5
  clear c10 f10
  go_wp2_with fail
  refine (missing_to C_10.out (a2_ok U1.out U3.out) a2_missing rfl).mono ?_
  rintro e v11 ⟨A11, c11, rfl, s11, o11, b11⟩
  have nS2 := Lib.hid (C_10.out.farA o11)
  have C_11 := Lib.hid (C_10.out.below b11)
  have BE_11 := Lib.hid (BE_10.out.trans (b11.mono BE_10.out.size))
  have K5_10 := Lib.hid (K5_9.out.below b11 K5_9.out.lt)
  have K6_9 := Lib.hid (K6_8.out.below b11 K6_8.out.lt)
  have S1_7 := Lib.hid (S1_6.out.below b11 (Nat.le_refl _))
  clear C_10 BE_10 K5_9 K6_8 S1_6
  have S2_0 := Lib.hid (s11)
  clear s11 o11 b11
  go_wp2_with fail
  refine (lock_to C_11.out a2_lock).mono ?_
  rintro e v12 ⟨rfl, c12, f12⟩
  have C_12 := Lib.hid (c12)
  have BE_12 := Lib.hid (BE_11.out.trans (f12.below BE_11.out.size hno.out))
  have K5_11 := Lib.hid (K5_10.out.frm f12 nK5.out)
  have K6_10 := Lib.hid (K6_9.out.frm f12 nK6.out)
  have S1_8 := Lib.hid (S1_7.out.frm f12 nS1.out)
  have S2_1 := Lib.hid (S2_0.out.frm f12 nS2.out)
  clear C_11 BE_11 K5_10 K6_9 S1_7 S2_0
  clear c12 f12
  go_wp2_with fail
  refine (lock_to C_12.out a3_lock).mono ?_
  rintro e v13 ⟨rfl, c13, f13⟩
  have C_13 := Lib.hid (c13)
  have BE_13 := Lib.hid (BE_12.out.trans (f13.below BE_12.out.size hno.out))
  have K5_12 := Lib.hid (K5_11.out.frm f13 nK5.out)
  have K6_11 := Lib.hid (K6_10.out.frm f13 nK6.out)
  have S1_9 := Lib.hid (S1_8.out.frm f13 nS1.out)
  have S2_2 := Lib.hid (S2_1.out.frm f13 nS2.out)
  clear C_12 BE_12 K5_11 K6_10 S1_8 S2_1
  clear c13 f13
  go_wp2_with fail
  have S : Hid (Sl (v13.alloc (.cells #[.int .i64 1, .int .i64 2, .int .i64 3] 3)) 1 (some ⟨v13.heap.size, 0, none⟩) 3 (ints [1, 2, 3])) := Lib.hid (new_ints v13 [1, 2, 3] _ 3 _ rfl rfl)
  have F : Below v13.heap.size v13 (v13.alloc (.cells #[.int .i64 1, .int .i64 2, .int .i64 3] 3)) := (Below.refl _ _).alloc (Nat.le_refl _) _
  have C_14 := Lib.hid (C_13.out.below F)
  have BE_14 := Lib.hid (BE_13.out.trans (F.mono BE_13.out.size))
  have K5_13 := Lib.hid (K5_12.out.below F K5_12.out.lt)
  have K6_12 := Lib.hid (K6_11.out.below F K6_11.out.lt)
  have S1_10 := Lib.hid (S1_9.out.below F (Nat.le_refl _))
  have S2_3 := Lib.hid (S2_2.out.below F (Nat.le_refl _))
  clear C_13 BE_13 K5_12 K6_11 S1_9 S2_2
  refine (ints_yes [1, 2, 3] 3 3 A4 _ c4 3 _ S1_10.out S.out (by omega)).mono ?_
  rintro e v14 ⟨rfl, b14⟩
  have C_15 := Lib.hid (C_14.out.below b14)
  have BE_15 := Lib.hid (BE_14.out.trans (b14.mono BE_14.out.size))
  have K5_14 := Lib.hid (K5_13.out.below b14 K5_13.out.lt)
  have K6_13 := Lib.hid (K6_12.out.below b14 K6_12.out.lt)
  have S1_11 := Lib.hid (S1_10.out.below b14 (Nat.le_refl _))
  have S2_4 := Lib.hid (S2_3.out.below b14 (Nat.le_refl _))
  clear C_14 BE_14 K5_13 K6_12 S1_10 S2_3
  clear S F b14
  go_wp2_with fail
  have S : Hid (Sl (v14.alloc (.cells #[.int .i64 2] 3)) 1 (some ⟨v14.heap.size, 0, none⟩) 1 (ints [2])) := Lib.hid (new_ints v14 [2] _ 1 _ rfl rfl)
  have F : Below v14.heap.size v14 (v14.alloc (.cells #[.int .i64 2] 3)) := (Below.refl _ _).alloc (Nat.le_refl _) _
  have C_16 := Lib.hid (C_15.out.below F)
  have BE_16 := Lib.hid (BE_15.out.trans (F.mono BE_15.out.size))
  have K5_15 := Lib.hid (K5_14.out.below F K5_14.out.lt)
  have K6_14 := Lib.hid (K6_13.out.below F K6_13.out.lt)
  have S2_5 := Lib.hid (S2_4.out.below F (Nat.le_refl _))
  clear C_15 BE_15 K5_14 K6_13 S2_4
  refine (ints_yes [2] 1 1 A11 _ c11 1 _ S2_5.out S.out (by omega)).mono ?_
  rintro e v15 ⟨rfl, b15⟩
  have C_17 := Lib.hid (C_16.out.below b15)
  have BE_17 := Lib.hid (BE_16.out.trans (b15.mono BE_16.out.size))
  have K5_16 := Lib.hid (K5_15.out.below b15 K5_15.out.lt)
  have K6_15 := Lib.hid (K6_14.out.below b15 K6_14.out.lt)
  have S2_6 := Lib.hid (S2_5.out.below b15 (Nat.le_refl _))
  clear C_16 BE_16 K5_15 K6_14 S2_5
  clear S F b15
  go_wp2_with fail
  refine (locked_to (b := true) C_17.out rfl).mono ?_
  rintro e w' ⟨rfl, rfl⟩
  have ld : (loadRow 24 (.pointer (some ⟨g2, 0, none⟩))).run Try.prog v15 = .ok (.agg #[.int .i64 3, .int .u64 7, .int .u64 8]) v15 := load_rv K6_15.out rfl
  go_wp2_with fail
  refine (reveal_to C_17.out ⟨by omega, by omega⟩ (by unfold U64; omega) (by unfold U64; omega) (short (Nat.le_of_ble_eq_true rfl)) (a3_rev E3.out)).mono ?_
  rintro e v16 ⟨rfl, c16, f16⟩
  have C_18 := Lib.hid (c16)
  have BE_18 := Lib.hid (BE_17.out.trans (f16.below BE_17.out.size hno.out))
  have K5_17 := Lib.hid (K5_16.out.frm f16 nK5.out)
  have K6_16 := Lib.hid (K6_15.out.frm f16 nK6.out)
  clear C_17 BE_17 K5_16 K6_15
  clear c16 f16
  clear ld
  have ld : (loadRow 24 (.pointer (some ⟨g2, 0, none⟩))).run Try.prog v16 = .ok (.agg #[.int .i64 3, .int .u64 7, .int .u64 8]) v16 := load_rv K6_16.out rfl
  go_wp2_with fail
  clear ld
  refine (reveal_to C_18.out ⟨by omega, by omega⟩ (by unfold U64; omega) (by unfold U64; omega) (short (Nat.le_of_ble_eq_true rfl)) a4_twice).mono ?_
  rintro e v17 ⟨rfl, c17, f17⟩
  have C_19 := Lib.hid (c17)
  have BE_19 := Lib.hid (BE_18.out.trans (f17.below BE_18.out.size hno.out))
  have K5_18 := Lib.hid (K5_17.out.frm f17 nK5.out)
  have K6_17 := Lib.hid (K6_16.out.frm f17 nK6.out)
  clear C_18 BE_18 K5_17 K6_16
  clear c17 f17
  go_wp2_with fail
  refine (reveal_to C_19.out ⟨by omega, by omega⟩ (by unfold U64; omega) (by unfold U64; omega) (short (Nat.le_of_ble_eq_true rfl)) a4_two).mono ?_
  rintro e v18 ⟨rfl, c18, f18⟩
  have C_20 := Lib.hid (c18)
  have BE_20 := Lib.hid (BE_19.out.trans (f18.below BE_19.out.size hno.out))
  have K5_19 := Lib.hid (K5_18.out.frm f18 nK5.out)
  have K6_18 := Lib.hid (K6_17.out.frm f18 nK6.out)
  clear C_19 BE_19 K5_18 K6_17
  clear c18 f18
  go_wp2_with fail
  refine (reveal_to C_20.out ⟨by omega, by omega⟩ (by unfold U64; omega) (by unfold U64; omega) (short (Nat.le_of_ble_eq_true rfl)) (a4_wrong EW.out)).mono ?_
  rintro e v19 ⟨rfl, c19, f19⟩
  have C_21 := Lib.hid (c19)
  have BE_21 := Lib.hid (BE_20.out.trans (f19.below BE_20.out.size hno.out))
  have K5_20 := Lib.hid (K5_19.out.frm f19 nK5.out)
  have K6_19 := Lib.hid (K6_18.out.frm f19 nK6.out)
  clear C_20 BE_20 K5_19 K6_18
  clear c19 f19
  go_wp2_with fail
  refine (seed_to C_21.out (a4_ok U1.out U3.out) a4_seed).mono ?_
  rintro e v20 ⟨rfl, b20⟩
  have C_22 := Lib.hid (C_21.out.below b20)
  have BE_22 := Lib.hid (BE_21.out.trans (b20.mono BE_21.out.size))
  have K5_21 := Lib.hid (K5_20.out.below b20 K5_20.out.lt)
  have K6_20 := Lib.hid (K6_19.out.below b20 K6_19.out.lt)
  clear C_21 BE_21 K5_20 K6_19
  clear b20
  have ld : (loadRow 24 (.pointer (some ⟨g1, 0, none⟩))).run Try.prog v20 = .ok (.agg #[.int .i64 1, .int .u64 5, .int .u64 6]) v20 := load_rv K5_21.out rfl
  go_wp2_with fail
  clear ld
  refine (reveal_to C_22.out ⟨by omega, by omega⟩ (by unfold U64; omega) (by unfold U64; omega) (short (Nat.le_of_ble_eq_true rfl)) (a4_one E1.out)).mono ?_
  rintro e v21 ⟨rfl, c21, f21⟩
  have C_23 := Lib.hid (c21)
  have BE_23 := Lib.hid (BE_22.out.trans (f21.below BE_22.out.size hno.out))
  have K5_22 := Lib.hid (K5_21.out.frm f21 nK5.out)
  have K6_21 := Lib.hid (K6_20.out.frm f21 nK6.out)
  clear C_22 BE_22 K5_21 K6_20
  clear c21 f21
  go_wp2_with fail
  refine (seed_to C_23.out (a5_ok U1.out U3.out) a5_seed).mono ?_
  rintro e v22 ⟨rfl, b22⟩
  have C_24 := Lib.hid (C_23.out.below b22)
  have BE_24 := Lib.hid (BE_23.out.trans (b22.mono BE_23.out.size))
  have K5_23 := Lib.hid (K5_22.out.below b22 K5_22.out.lt)
  have K6_22 := Lib.hid (K6_21.out.below b22 K6_21.out.lt)
  clear C_23 BE_23 K5_22 K6_21
  clear b22
  go_wp2_with fail
  refine (mix_any 5 _ (by unfold U64; omega)).mono ?_
  rintro e w' ⟨rfl, rfl⟩
  go_wp2_with fail
  refine (mix_any _ _ (xor_is_u64 _ _)).mono ?_
  rintro e w' ⟨rfl, rfl⟩
  go_wp2_with fail
  go_ret
  exact ⟨rfl, BE_24.out⟩
end Go.Proofs.Ytdgekhbmcmojdaa.Cm
