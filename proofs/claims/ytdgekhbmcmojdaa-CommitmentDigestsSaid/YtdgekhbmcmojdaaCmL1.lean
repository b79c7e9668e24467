/-
  The laws CommitmentDigests and CommitmentNobody: the walks. Conditions: numbers of their kinds.
-/
import Derived.Test.YtdgekhbmcmojdaaCmA
import Derived.Test.YtdgekhbmcmojdaaCmR3
import Derived.Test.YtdgekhbmcmojdaaReg
namespace Go.Proofs.Ytdgekhbmcmojdaa.Cm
open Go.RowKit Go.Proofs.Ytdgekhbmcmojdaa.Mem Go.Proofs.Ytdgekhbmcmojdaa.Dg Go.Proofs.Ytdgekhbmcmojdaa.Mp
attribute [local go_sem ↓] exec_load_rv exec_store_rv exec_load_tx
set_option maxRecDepth 100000 in
set_option maxHeartbeats 4000000 in
theorem digests_walk (p x n a q : Int) (w : World) (hn : U64 n) :
    Calls Try.prog 3 #[.agg #[.int .i64 p, .int .u64 x, .int .u64 n], .int .i64 a, .int .i64 q] w fun e w' => e = .returned (.bool true) ∧ Below w.heap.size w w' := by
  obtain ⟨dg, hd⟩ : ∃ dg, digI p x n = dg := ⟨_, rfl⟩
  have C1 : Hid (∀ W, Calls Try.prog 11 #[.agg #[.int .i64 p, .int .u64 x, .int .u64 n]] W fun e w' => e = .returned (.int .u64 dg) ∧ Below W.heap.size W w') := fun W => by rw [← hd]; exact digest_any p x n W hn
  have C2 : Hid (∀ W, Calls Try.prog 12 #[.agg #[.int .i64 p, .int .u64 x, .int .u64 n]] W fun e w' => e = .returned (.int .u64 dg) ∧ Below W.heap.size W w') := fun W => by rw [← hd]; exact digestR_any p x n W hn
  clear hd hn
  obtain ⟨W0, hW0⟩ : ∃ W0, W0 = w.alloc (.cells #[.int .i64 p, .int .u64 x, .int .u64 n] 24) := ⟨_, rfl⟩
  have KB_0 : Hid (Blk W0 w.heap.size 24 #[.int .i64 p, .int .u64 x, .int .u64 n]) := by rw [hW0]; exact Blk.new _ _ _
  have BE_0 : Hid (Below w.heap.size w W0) := by rw [hW0]; exact (Below.refl _ w).alloc (Nat.le_refl _) _
  have HW := Lib.hid hW0
  clear hW0
  cases ho : newOk a q with
  | false =>
    have HO := Lib.hid ho
    clear ho
    go_enter Try.func3, Try.ntmps3
    go_wp2_with fail
    rw [← HW.out]
    clear HW
    refine (new_no a q _ HO.out).mono ?_
    rintro e w' ⟨rfl, rfl⟩
    go_wp2_with fail
    refine (newR_no a q _ HO.out).mono ?_
    rintro e w' ⟨rfl, rfl⟩
    go_wp2_with fail
    have F : Below W0.heap.size W0 W0.drew := (Below.refl _ _).drew
    have KB_1 := Lib.hid (KB_0.out.below F KB_0.out.lt)
    have BE_1 := Lib.hid (BE_0.out.trans (F.mono BE_0.out.size))
    clear KB_0 BE_0
    clear F
    refine Reg.start (by kernel_rfl) ?_
    refine Reg.take 0 (v := ?_) rfl (by kernel_rfl) (fun _ _ _ h => h) rfl ?_ ?_
    rotate_left
    · intro W hW
      have l1 : (loadRow 24 (.pointer (some ⟨w.heap.size, 0, none⟩))).run Try.prog W = .ok (.agg #[.int .i64 p, .int .u64 x, .int .u64 n]) W := load_rv (KB_1.out.below hW.all KB_1.out.lt) rfl
      go_simp
      try with_reducible rfl
    try simp only [Act.put, List.setIfInBounds_toArray, List.set_cons_zero, List.set_cons_succ]
    refine Reg.take 2 (v := ?_) rfl (by kernel_rfl) (fun _ _ _ h => h) rfl ?_ ?_
    rotate_left
    · intro W hW
      have l1 : (loadRow 24 (.pointer (some ⟨w.heap.size, 0, none⟩))).run Try.prog W = .ok (.agg #[.int .i64 p, .int .u64 x, .int .u64 n]) W := load_rv (KB_1.out.below hW.all KB_1.out.lt) rfl
      go_simp
      try with_reducible rfl
    try simp only [Act.put, List.setIfInBounds_toArray, List.set_cons_zero, List.set_cons_succ]
    refine Reg.do_ 1 rfl (by kernel_rfl) rfl (fun K hK => ?_)
    go_simp
    refine (C1.out _).mono ?_
    rintro e v3 ⟨rfl, b3⟩
    have KB_2 := Lib.hid (KB_1.out.below b3 KB_1.out.lt)
    have BE_2 := Lib.hid (BE_1.out.trans (b3.mono BE_1.out.size))
    clear KB_1 BE_1
    refine hK.out _ _ b3 ?_
    clear hK K b3
    try simp only [Act.put, List.setIfInBounds_toArray, List.set_cons_zero, List.set_cons_succ]
    refine Reg.do_ 3 rfl (by kernel_rfl) rfl (fun K hK => ?_)
    go_simp
    refine (C2.out _).mono ?_
    rintro e v4 ⟨rfl, b4⟩
    have KB_3 := Lib.hid (KB_2.out.below b4 KB_2.out.lt)
    have BE_3 := Lib.hid (BE_2.out.trans (b4.mono BE_2.out.size))
    clear KB_2 BE_2
    refine hK.out _ _ b4 ?_
    clear hK K b4
    try simp only [Act.put, List.setIfInBounds_toArray, List.set_cons_zero, List.set_cons_succ]
    refine Reg.take 4 (v := ?_) rfl (by kernel_rfl) (fun _ _ _ h => h) rfl ?_ ?_
    rotate_left
    · intro W hW
      go_simp
      try with_reducible rfl
    try simp only [Act.put, List.setIfInBounds_toArray, List.set_cons_zero, List.set_cons_succ]
    refine Reg.take 5 (v := ?_) rfl (by kernel_rfl) (fun _ _ _ h => h) rfl ?_ ?_
    rotate_left
    · intro W hW
      go_simp
      try with_reducible rfl
    try simp only [Act.put, List.setIfInBounds_toArray, List.set_cons_zero, List.set_cons_succ]
    refine Reg.take 6 (v := ?_) rfl (by kernel_rfl) (fun _ _ _ h => h) rfl ?_ ?_
    rotate_left
    · intro W hW
      go_simp
      try with_reducible rfl
    try simp only [Act.put, List.setIfInBounds_toArray, List.set_cons_zero, List.set_cons_succ]
    refine Reg.take 7 (v := ?_) rfl (by kernel_rfl) (fun _ _ _ h => h) rfl ?_ ?_
    rotate_left
    · intro W hW
      go_simp
      try with_reducible rfl
    try simp only [Act.put, List.setIfInBounds_toArray, List.set_cons_zero, List.set_cons_succ]
    refine Reg.take 8 (v := ?_) rfl (by kernel_rfl) (fun _ _ _ h => h) rfl ?_ ?_
    rotate_left
    · intro W hW
      go_simp
      try with_reducible rfl
    try simp only [Act.put, List.setIfInBounds_toArray, List.set_cons_zero, List.set_cons_succ]
    refine Reg.take 9 (v := ?_) rfl (by kernel_rfl) (fun _ _ _ h => h) rfl ?_ ?_
    rotate_left
    · intro W hW
      go_simp
      try with_reducible rfl
    try simp only [Act.put, List.setIfInBounds_toArray, List.set_cons_zero, List.set_cons_succ]
    refine Reg.take 10 (v := ?_) rfl (by kernel_rfl) (fun _ _ _ h => h) rfl ?_ ?_
    rotate_left
    · intro W hW
      go_simp
      try with_reducible rfl
    try simp only [Act.put, List.setIfInBounds_toArray, List.set_cons_zero, List.set_cons_succ]
    refine Reg.take 11 (v := ?_) rfl (by kernel_rfl) (fun _ _ _ h => h) rfl ?_ ?_
    rotate_left
    · intro W hW
      go_simp
      try with_reducible rfl
    try simp only [Act.put, List.setIfInBounds_toArray, List.set_cons_zero, List.set_cons_succ]
    refine Reg.take 12 (v := ?_) rfl (by kernel_rfl) (fun _ _ _ h => h) rfl ?_ ?_
    rotate_left
    · intro W hW
      go_simp
      try with_reducible rfl
    try simp only [Act.put, List.setIfInBounds_toArray, List.set_cons_zero, List.set_cons_succ]
    refine Reg.take 13 (v := ?_) rfl (by kernel_rfl) (fun _ _ _ h => h) rfl ?_ ?_
    rotate_left
    · intro W hW
      go_simp
      try with_reducible rfl
    try simp only [Act.put, List.setIfInBounds_toArray, List.set_cons_zero, List.set_cons_succ]
    refine Reg.take 14 (v := ?_) rfl (by kernel_rfl) (fun _ _ _ h => h) rfl ?_ ?_
    rotate_left
    · intro W hW
      go_simp
      try with_reducible rfl
    try simp only [Act.put, List.setIfInBounds_toArray, List.set_cons_zero, List.set_cons_succ]
    refine Reg.take 15 (v := ?_) rfl (by kernel_rfl) (fun _ _ _ h => h) rfl ?_ ?_
    rotate_left
    · intro W hW
      go_simp
      try with_reducible rfl
    try simp only [Act.put, List.setIfInBounds_toArray, List.set_cons_zero, List.set_cons_succ]
    refine Reg.take 16 (v := ?_) rfl (by kernel_rfl) (fun _ _ _ h => h) rfl ?_ ?_
    rotate_left
    · intro W hW
      go_simp
      try with_reducible rfl
    try simp only [Act.put, List.setIfInBounds_toArray, List.set_cons_zero, List.set_cons_succ]
    refine Reg.take 17 (v := ?_) rfl (by kernel_rfl) (fun _ _ _ h => h) rfl ?_ ?_
    rotate_left
    · intro W hW
      go_simp
      try with_reducible rfl
    try simp only [Act.put, List.setIfInBounds_toArray, List.set_cons_zero, List.set_cons_succ]
    refine Reg.do_ 18 rfl (by kernel_rfl) rfl (fun K hK => ?_)
    go_simp
    refine (awake27 _).mono ?_
    rintro e v5 ⟨rfl, b5⟩
    have KB_4 := Lib.hid (KB_3.out.below b5 KB_3.out.lt)
    have BE_4 := Lib.hid (BE_3.out.trans (b5.mono BE_3.out.size))
    clear KB_3 BE_3
    refine hK.out _ _ b5 ?_
    clear hK K b5
    try simp only [Act.put, List.setIfInBounds_toArray, List.set_cons_zero, List.set_cons_succ]
    refine Reg.take 19 (v := ?_) rfl (by kernel_rfl) (fun _ _ _ h => h) rfl ?_ ?_
    rotate_left
    · intro W hW
      go_simp
      try with_reducible rfl
    try simp only [Act.put, List.setIfInBounds_toArray, List.set_cons_zero, List.set_cons_succ]
    refine Reg.take 20 (v := ?_) rfl (by kernel_rfl) (fun _ _ _ h => h) rfl ?_ ?_
    rotate_left
    · intro W hW
      go_simp
      try with_reducible rfl
    try simp only [Act.put, List.setIfInBounds_toArray, List.set_cons_zero, List.set_cons_succ]
    refine Reg.done (by kernel_rfl) ?_
    go_wp2_with fail
    go_ret
    exact ⟨rfl, BE_4.out⟩
  | true =>
    obtain ⟨h1, h2, h3, h4⟩ := (newOk_iff a q).1 ho
    have H1 := Lib.hid h1
    have H2 := Lib.hid h2
    have H3 := Lib.hid h3
    have H4 := Lib.hid h4
    clear h1 h2 h3 h4 ho
    go_enter Try.func3, Try.ntmps3
    go_wp2_with fail
    rw [← HW.out]
    clear HW
    refine (new_to _ H1.out H2.out H3.out H4.out).mono ?_
    rintro e v0 ⟨g, d, v, rfl, c0, o0, b0⟩
    have KB_1 := Lib.hid (KB_0.out.below b0 KB_0.out.lt)
    have BE_1 := Lib.hid (BE_0.out.trans (b0.mono BE_0.out.size))
    clear KB_0 BE_0
    clear c0 o0 b0
    go_wp2_with fail
    refine (newR_yes a q _ H1.out H2.out H3.out H4.out).mono ?_
    rintro e v1 ⟨g1, rfl, c1, o1, b1⟩
    have KB_2 := Lib.hid (KB_1.out.below b1 KB_1.out.lt)
    have BE_2 := Lib.hid (BE_1.out.trans (b1.mono BE_1.out.size))
    clear KB_1 BE_1
    clear c1 o1 b1
    go_wp2_with fail
    have F : Below v1.heap.size v1 v1.drew := (Below.refl _ _).drew
    have KB_3 := Lib.hid (KB_2.out.below F KB_2.out.lt)
    have BE_3 := Lib.hid (BE_2.out.trans (F.mono BE_2.out.size))
    clear KB_2 BE_2
    clear F
    refine Reg.start (by kernel_rfl) ?_
    refine Reg.take 0 (v := ?_) rfl (by kernel_rfl) (fun _ _ _ h => h) rfl ?_ ?_
    rotate_left
    · intro W hW
      have l1 : (loadRow 24 (.pointer (some ⟨w.heap.size, 0, none⟩))).run Try.prog W = .ok (.agg #[.int .i64 p, .int .u64 x, .int .u64 n]) W := load_rv (KB_3.out.below hW.all KB_3.out.lt) rfl
      go_simp
      try with_reducible rfl
    try simp only [Act.put, List.setIfInBounds_toArray, List.set_cons_zero, List.set_cons_succ]
    refine Reg.take 2 (v := ?_) rfl (by kernel_rfl) (fun _ _ _ h => h) rfl ?_ ?_
    rotate_left
    · intro W hW
      have l1 : (loadRow 24 (.pointer (some ⟨w.heap.size, 0, none⟩))).run Try.prog W = .ok (.agg #[.int .i64 p, .int .u64 x, .int .u64 n]) W := load_rv (KB_3.out.below hW.all KB_3.out.lt) rfl
      go_simp
      try with_reducible rfl
    try simp only [Act.put, List.setIfInBounds_toArray, List.set_cons_zero, List.set_cons_succ]
    refine Reg.do_ 1 rfl (by kernel_rfl) rfl (fun K hK => ?_)
    go_simp
    refine (C1.out _).mono ?_
    rintro e v3 ⟨rfl, b3⟩
    have KB_4 := Lib.hid (KB_3.out.below b3 KB_3.out.lt)
    have BE_4 := Lib.hid (BE_3.out.trans (b3.mono BE_3.out.size))
    clear KB_3 BE_3
    refine hK.out _ _ b3 ?_
    clear hK K b3
    try simp only [Act.put, List.setIfInBounds_toArray, List.set_cons_zero, List.set_cons_succ]
    refine Reg.do_ 3 rfl (by kernel_rfl) rfl (fun K hK => ?_)
    go_simp
    refine (C2.out _).mono ?_
    rintro e v4 ⟨rfl, b4⟩
    have KB_5 := Lib.hid (KB_4.out.below b4 KB_4.out.lt)
    have BE_5 := Lib.hid (BE_4.out.trans (b4.mono BE_4.out.size))
    clear KB_4 BE_4
    refine hK.out _ _ b4 ?_
    clear hK K b4
    try simp only [Act.put, List.setIfInBounds_toArray, List.set_cons_zero, List.set_cons_succ]
    refine Reg.take 4 (v := ?_) rfl (by kernel_rfl) (fun _ _ _ h => h) rfl ?_ ?_
    rotate_left
    · intro W hW
      go_simp
      try with_reducible rfl
    try simp only [Act.put, List.setIfInBounds_toArray, List.set_cons_zero, List.set_cons_succ]
    refine Reg.take 5 (v := ?_) rfl (by kernel_rfl) (fun _ _ _ h => h) rfl ?_ ?_
    rotate_left
    · intro W hW
      go_simp
      try with_reducible rfl
    try simp only [Act.put, List.setIfInBounds_toArray, List.set_cons_zero, List.set_cons_succ]
    refine Reg.take 6 (v := ?_) rfl (by kernel_rfl) (fun _ _ _ h => h) rfl ?_ ?_
    rotate_left
    · intro W hW
      go_simp
      try with_reducible rfl
    try simp only [Act.put, List.setIfInBounds_toArray, List.set_cons_zero, List.set_cons_succ]
    refine Reg.take 7 (v := ?_) rfl (by kernel_rfl) (fun _ _ _ h => h) rfl ?_ ?_
    rotate_left
    · intro W hW
      go_simp
      try with_reducible rfl
    try simp only [Act.put, List.setIfInBounds_toArray, List.set_cons_zero, List.set_cons_succ]
    refine Reg.take 8 (v := ?_) rfl (by kernel_rfl) (fun _ _ _ h => h) rfl ?_ ?_
    rotate_left
    · intro W hW
      go_simp
      try with_reducible rfl
    try simp only [Act.put, List.setIfInBounds_toArray, List.set_cons_zero, List.set_cons_succ]
    refine Reg.take 9 (v := ?_) rfl (by kernel_rfl) (fun _ _ _ h => h) rfl ?_ ?_
    rotate_left
    · intro W hW
      go_simp
      try with_reducible rfl
    try simp only [Act.put, List.setIfInBounds_toArray, List.set_cons_zero, List.set_cons_succ]
    refine Reg.take 10 (v := ?_) rfl (by kernel_rfl) (fun _ _ _ h => h) rfl ?_ ?_
    rotate_left
    · intro W hW
      go_simp
      try with_reducible rfl
    try simp only [Act.put, List.setIfInBounds_toArray, List.set_cons_zero, List.set_cons_succ]
    refine Reg.take 11 (v := ?_) rfl (by kernel_rfl) (fun _ _ _ h => h) rfl ?_ ?_
    rotate_left
    · intro W hW
      go_simp
      try with_reducible rfl
    try simp only [Act.put, List.setIfInBounds_toArray, List.set_cons_zero, List.set_cons_succ]
    refine Reg.take 12 (v := ?_) rfl (by kernel_rfl) (fun _ _ _ h => h) rfl ?_ ?_
    rotate_left
    · intro W hW
      go_simp
      try with_reducible rfl
    try simp only [Act.put, List.setIfInBounds_toArray, List.set_cons_zero, List.set_cons_succ]
    refine Reg.take 13 (v := ?_) rfl (by kernel_rfl) (fun _ _ _ h => h) rfl ?_ ?_
    rotate_left
    · intro W hW
      go_simp
      try with_reducible rfl
    try simp only [Act.put, List.setIfInBounds_toArray, List.set_cons_zero, List.set_cons_succ]
    refine Reg.take 14 (v := ?_) rfl (by kernel_rfl) (fun _ _ _ h => h) rfl ?_ ?_
    rotate_left
    · intro W hW
      go_simp
      try with_reducible rfl
    try simp only [Act.put, List.setIfInBounds_toArray, List.set_cons_zero, List.set_cons_succ]
    refine Reg.take 15 (v := ?_) rfl (by kernel_rfl) (fun _ _ _ h => h) rfl ?_ ?_
    rotate_left
    · intro W hW
      go_simp
      try with_reducible rfl
    try simp only [Act.put, List.setIfInBounds_toArray, List.set_cons_zero, List.set_cons_succ]
    refine Reg.take 16 (v := ?_) rfl (by kernel_rfl) (fun _ _ _ h => h) rfl ?_ ?_
    rotate_left
    · intro W hW
      go_simp
      try with_reducible rfl
    try simp only [Act.put, List.setIfInBounds_toArray, List.set_cons_zero, List.set_cons_succ]
    refine Reg.take 17 (v := ?_) rfl (by kernel_rfl) (fun _ _ _ h => h) rfl ?_ ?_
    rotate_left
    · intro W hW
      go_simp
      try with_reducible rfl
    try simp only [Act.put, List.setIfInBounds_toArray, List.set_cons_zero, List.set_cons_succ]
    refine Reg.do_ 18 rfl (by kernel_rfl) rfl (fun K hK => ?_)
    go_simp
    refine (awake27 _).mono ?_
    rintro e v5 ⟨rfl, b5⟩
    have KB_6 := Lib.hid (KB_5.out.below b5 KB_5.out.lt)
    have BE_6 := Lib.hid (BE_5.out.trans (b5.mono BE_5.out.size))
    clear KB_5 BE_5
    refine hK.out _ _ b5 ?_
    clear hK K b5
    try simp only [Act.put, List.setIfInBounds_toArray, List.set_cons_zero, List.set_cons_succ]
    refine Reg.take 19 (v := ?_) rfl (by kernel_rfl) (fun _ _ _ h => h) rfl ?_ ?_
    rotate_left
    · intro W hW
      go_simp
      try with_reducible rfl
    try simp only [Act.put, List.setIfInBounds_toArray, List.set_cons_zero, List.set_cons_succ]
    refine Reg.take 20 (v := ?_) rfl (by kernel_rfl) (fun _ _ _ h => h) rfl ?_ ?_
    rotate_left
    · intro W hW
      go_simp
      try with_reducible rfl
    try simp only [Act.put, List.setIfInBounds_toArray, List.set_cons_zero, List.set_cons_succ]
    refine Reg.done (by kernel_rfl) ?_
    go_wp2_with fail
    go_ret
    exact ⟨rfl, BE_6.out⟩
set_option maxRecDepth 100000 in
set_option maxHeartbeats 4000000 in
theorem nobody_walk (cp cx p x n : Int) (w : World) :
    Calls Try.prog 8 #[.agg #[.int .i64 cp, .int .u64 cx], .agg #[.int .i64 p, .int .u64 x, .int .u64 n]] w fun e w' => e = .returned (.bool true) ∧ Below w.heap.size w w' := by
  obtain ⟨W0, hW0⟩ : ∃ W0, W0 = (w.alloc (.cells #[.int .i64 cp, .int .u64 cx] 39)).alloc (.cells #[.int .i64 p, .int .u64 x, .int .u64 n] 24) := ⟨_, rfl⟩
  have KC_0 : Hid (Blk W0 w.heap.size 39 #[.int .i64 cp, .int .u64 cx]) := by rw [hW0]; exact heap_alloc2_old _ _ _
  have KR_0 : Hid (Blk W0 (w.heap.size + 1) 24 #[.int .i64 p, .int .u64 x, .int .u64 n]) := by rw [hW0]; exact heap_alloc2_new _ _ _
  have BE_0 : Hid (Below w.heap.size w W0) := by rw [hW0]; exact ((Below.refl _ w).alloc (Nat.le_refl _) _).alloc (by simp) _
  have HW := Lib.hid hW0
  clear hW0
  go_enter Try.func8, Try.ntmps8
  go_wp2_with fail
  rw [← HW.out]
  clear HW
  refine (nil_seed _).mono ?_
  rintro e v1 ⟨rfl, b1⟩
  have KC_1 := Lib.hid (KC_0.out.below b1 KC_0.out.lt)
  have KR_1 := Lib.hid (KR_0.out.below b1 KR_0.out.lt)
  have BE_1 := Lib.hid (BE_0.out.trans (b1.mono BE_0.out.size))
  clear KC_0 KR_0 BE_0
  clear b1
  have ld : (loadRow 39 (.pointer (some ⟨w.heap.size, 0, none⟩))).run Try.prog v1 = .ok (.agg #[.int .i64 cp, .int .u64 cx]) v1 := load_tx KC_1.out rfl
  go_wp2_with fail
  clear ld
  refine (nil_commit _ cp cx).mono ?_
  rintro e v2 ⟨rfl, b2⟩
  have KC_2 := Lib.hid (KC_1.out.below b2 KC_1.out.lt)
  have KR_2 := Lib.hid (KR_1.out.below b2 KR_1.out.lt)
  have BE_2 := Lib.hid (BE_1.out.trans (b2.mono BE_1.out.size))
  clear KC_1 KR_1 BE_1
  clear b2
  go_wp2_with fail
  refine (nil_lock _).mono ?_
  rintro e v3 ⟨rfl, b3⟩
  have KC_3 := Lib.hid (KC_2.out.below b3 KC_2.out.lt)
  have KR_3 := Lib.hid (KR_2.out.below b3 KR_2.out.lt)
  have BE_3 := Lib.hid (BE_2.out.trans (b3.mono BE_2.out.size))
  clear KC_2 KR_2 BE_2
  clear b3
  have ld : (loadRow 24 (.pointer (some ⟨w.heap.size + 1, 0, none⟩))).run Try.prog v3 = .ok (.agg #[.int .i64 p, .int .u64 x, .int .u64 n]) v3 := load_rv KR_3.out rfl
  go_wp2_with fail
  clear ld
  refine (nil_reveal _ p x n).mono ?_
  rintro e v4 ⟨rfl, b4⟩
  have KC_4 := Lib.hid (KC_3.out.below b4 KC_3.out.lt)
  have KR_4 := Lib.hid (KR_3.out.below b4 KR_3.out.lt)
  have BE_4 := Lib.hid (BE_3.out.trans (b4.mono BE_3.out.size))
  clear KC_3 KR_3 BE_3
  clear b4
  go_wp2_with fail
  refine (nil_locked _).mono ?_
  rintro e v5 ⟨rfl, b5⟩
  have KC_5 := Lib.hid (KC_4.out.below b5 KC_4.out.lt)
  have KR_5 := Lib.hid (KR_4.out.below b5 KR_4.out.lt)
  have BE_5 := Lib.hid (BE_4.out.trans (b5.mono BE_4.out.size))
  clear KC_4 KR_4 BE_4
  clear b5
  go_wp2_with fail
  refine (nil_missing _).mono ?_
  rintro e v6 ⟨rfl, b6⟩
  have KC_6 := Lib.hid (KC_5.out.below b6 KC_5.out.lt)
  have KR_6 := Lib.hid (KR_5.out.below b6 KR_5.out.lt)
  have BE_6 := Lib.hid (BE_5.out.trans (b6.mono BE_5.out.size))
  clear KC_5 KR_5 BE_5
  clear b6
  go_wp2_with fail
  refine (awake27 _).mono ?_
  rintro e v7 ⟨rfl, b7⟩
  have KC_7 := Lib.hid (KC_6.out.below b7 KC_6.out.lt)
  have KR_7 := Lib.hid (KR_6.out.below b7 KR_6.out.lt)
  have BE_7 := Lib.hid (BE_6.out.trans (b7.mono BE_6.out.size))
  clear KC_6 KR_6 BE_6
  clear b7
  go_wp2_with fail
  go_ret
  exact ⟨rfl, BE_7.out⟩
end Go.Proofs.Ytdgekhbmcmojdaa.Cm
