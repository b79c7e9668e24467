/-
  The walks of lotteryref27, second part: Reveal. Conditions: the object lies in memory; numbers of their kinds.
-/
import Derived.Test.YtdgekhbmcmojdaaCmR
namespace Go.Proofs.Ytdgekhbmcmojdaa.Cm
open Go.RowKit Go.Proofs.Ytdgekhbmcmojdaa.Mem Go.Proofs.Ytdgekhbmcmojdaa.Dg Go.Proofs.Ytdgekhbmcmojdaa.Mp
attribute [local go_sem ↓] exec_load_tx exec_load_rv

set_option maxRecDepth 100000 in
set_option maxHeartbeats 2000000 in
theorem revealR_2a (g : Nat) (vc vr : Value) (s : St) (ts : List (Int × Int × Int)) (p x n : Int) (w : World) (h : Rf w g vc vr s ts) (hi : p < 1) :
    Calls Try.prog 19 #[.pointer (some ⟨g, 0, none⟩), .agg #[.int .i64 p, .int .u64 x, .int .u64 n]] w (RfPost g vc vr s (.int .i64 2) w) := by
  obtain ⟨W0, hW0⟩ : ∃ W0, W0 = w.alloc (.cells #[.int .i64 p, .int .u64 x, .int .u64 n] 24) := ⟨_, rfl⟩
  have HR : Hid (Rf W0 g vc vr s ts) := by rw [hW0]; exact h.below ((Below.refl _ w).alloc (Nat.le_refl _) _)
  have KB : Hid (Blk W0 w.heap.size 24 #[.int .i64 p, .int .u64 x, .int .u64 n]) := by rw [hW0]; exact Blk.new _ _ _
  have BE : Hid (Below w.heap.size w W0) := by rw [hW0]; exact (Below.refl _ w).alloc (Nat.le_refl _) _
  have HO := Lib.hid h
  have HW := Lib.hid hW0
  clear hW0 h
  go_enter Try.func19, Try.ntmps19
  go_wp2_with fail
  rw [← HW.out]
  clear HW
  refine Reg.start (by kernel_rfl) ?_
  refine Reg.take 0 (v := ?_) rfl (by kernel_rfl) (fun _ _ _ h => h) rfl ?_ ?_
  rotate_left
  · intro W hW
    go_simp
    try with_reducible rfl
  try simp only [Act.put, List.setIfInBounds_toArray, List.set_cons_zero, List.set_cons_succ]
  refine Reg.take 1 (v := ?_) rfl (by kernel_rfl) (fun _ _ _ h => h) rfl ?_ ?_
  rotate_left
  · intro W hW
    have q : W.cell? ⟨w.heap.size, 0, none⟩ = some (.int .i64 p) := (KB.out.below hW.old KB.out.lt).cell 0
    go_simp
    try with_reducible rfl
  try simp only [Act.put, List.setIfInBounds_toArray, List.set_cons_zero, List.set_cons_succ]
  refine Reg.take 2 (v := ?_) rfl (by kernel_rfl) (fun _ _ _ h => h) rfl ?_ ?_
  rotate_left
  · intro W hW
    go_simp
    try with_reducible rfl
  try simp only [Act.put, List.setIfInBounds_toArray, List.set_cons_zero, List.set_cons_succ]
  refine Reg.take 3 (v := ?_) rfl (by kernel_rfl) (fun _ _ _ h => h) rfl ?_ ?_
  rotate_left
  · intro W hW
    go_simp
    try with_reducible rfl
  try simp only [Act.put, List.setIfInBounds_toArray, List.set_cons_zero, List.set_cons_succ]
  refine Reg.skip 4 rfl (by kernel_rfl) (fun _ _ _ h => h) rfl ?_
  try simp only [Act.put, List.setIfInBounds_toArray, List.set_cons_zero, List.set_cons_succ]
  refine Reg.skip 5 rfl (by kernel_rfl) (fun _ _ _ h => h) rfl ?_
  try simp only [Act.put, List.setIfInBounds_toArray, List.set_cons_zero, List.set_cons_succ]
  refine Reg.skip 6 rfl (by kernel_rfl) (fun _ _ _ h => h) rfl ?_
  try simp only [Act.put, List.setIfInBounds_toArray, List.set_cons_zero, List.set_cons_succ]
  refine Reg.skip 7 rfl (by kernel_rfl) (fun _ _ _ h => h) rfl ?_
  try simp only [Act.put, List.setIfInBounds_toArray, List.set_cons_zero, List.set_cons_succ]
  refine Reg.skip 8 rfl (by kernel_rfl) (fun _ _ _ h => h) rfl ?_
  try simp only [Act.put, List.setIfInBounds_toArray, List.set_cons_zero, List.set_cons_succ]
  refine Reg.skip 9 rfl (by kernel_rfl) (fun _ _ _ h => h) rfl ?_
  try simp only [Act.put, List.setIfInBounds_toArray, List.set_cons_zero, List.set_cons_succ]
  refine Reg.skip 10 rfl (by kernel_rfl) (fun _ _ _ h => h) rfl ?_
  try simp only [Act.put, List.setIfInBounds_toArray, List.set_cons_zero, List.set_cons_succ]
  refine Reg.take 11 (v := ?_) rfl (by kernel_rfl) (fun _ _ _ h => h) rfl ?_ ?_
  rotate_left
  · intro W hW
    go_simp
    try with_reducible rfl
  try simp only [Act.put, List.setIfInBounds_toArray, List.set_cons_zero, List.set_cons_succ]
  refine Reg.take 12 (v := ?_) rfl (by kernel_rfl) (fun _ _ _ h => h) rfl ?_ ?_
  rotate_left
  · intro W hW
    go_simp
    try with_reducible rfl
  try simp only [Act.put, List.setIfInBounds_toArray, List.set_cons_zero, List.set_cons_succ]
  refine Reg.done (by kernel_rfl) ?_
  go_wp2_with fail
  go_ret
  exact rf_same HO.out (BE.out.trans (Below.mono ((Below.refl _ W0).drew) BE.out.size))

set_option maxRecDepth 100000 in
set_option maxHeartbeats 2000000 in
theorem revealR_2b (g : Nat) (vc vr : Value) (s : St) (ts : List (Int × Int × Int)) (p x n : Int) (w : World) (h : Rf w g vc vr s ts) (hi : ¬ p < 1) (hn : s.n < p) :
    Calls Try.prog 19 #[.pointer (some ⟨g, 0, none⟩), .agg #[.int .i64 p, .int .u64 x, .int .u64 n]] w (RfPost g vc vr s (.int .i64 2) w) := by
  obtain ⟨W0, hW0⟩ : ∃ W0, W0 = w.alloc (.cells #[.int .i64 p, .int .u64 x, .int .u64 n] 24) := ⟨_, rfl⟩
  have HR : Hid (Rf W0 g vc vr s ts) := by rw [hW0]; exact h.below ((Below.refl _ w).alloc (Nat.le_refl _) _)
  have KB : Hid (Blk W0 w.heap.size 24 #[.int .i64 p, .int .u64 x, .int .u64 n]) := by rw [hW0]; exact Blk.new _ _ _
  have BE : Hid (Below w.heap.size w W0) := by rw [hW0]; exact (Below.refl _ w).alloc (Nat.le_refl _) _
  have HO := Lib.hid h
  have HW := Lib.hid hW0
  clear hW0 h
  have hi1 : decide (p < 1) = false := by simp; omega
  clear hi
  go_enter Try.func19, Try.ntmps19
  go_wp2_with fail
  rw [← HW.out]
  clear HW
  refine Reg.start (by kernel_rfl) ?_
  refine Reg.take 0 (v := ?_) rfl (by kernel_rfl) (fun _ _ _ h => h) rfl ?_ ?_
  rotate_left
  · intro W hW
    go_simp
    try with_reducible rfl
  try simp only [Act.put, List.setIfInBounds_toArray, List.set_cons_zero, List.set_cons_succ]
  refine Reg.take 1 (v := ?_) rfl (by kernel_rfl) (fun _ _ _ h => h) rfl ?_ ?_
  rotate_left
  · intro W hW
    have q : W.cell? ⟨w.heap.size, 0, none⟩ = some (.int .i64 p) := (KB.out.below hW.old KB.out.lt).cell 0
    go_simp
    try with_reducible rfl
  try simp only [Act.put, List.setIfInBounds_toArray, List.set_cons_zero, List.set_cons_succ]
  refine Reg.take 2 (v := ?_) rfl (by kernel_rfl) (fun _ _ _ h => h) rfl ?_ ?_
  rotate_left
  · intro W hW
    go_simp
    try with_reducible rfl
  try simp only [Act.put, List.setIfInBounds_toArray, List.set_cons_zero, List.set_cons_succ]
  refine Reg.take 3 (v := ?_) rfl (by kernel_rfl) (fun _ _ _ h => h) rfl ?_ ?_
  rotate_left
  · intro W hW
    go_simp
    try with_reducible rfl
  try simp only [Act.put, List.setIfInBounds_toArray, List.set_cons_zero, List.set_cons_succ]
  refine Reg.take 4 (v := ?_) rfl (by kernel_rfl) (fun _ _ _ h => h) rfl ?_ ?_
  rotate_left
  · intro W hW
    go_simp
    try with_reducible rfl
  try simp only [Act.put, List.setIfInBounds_toArray, List.set_cons_zero, List.set_cons_succ]
  refine Reg.take 5 (v := ?_) rfl (by kernel_rfl) (fun _ _ _ h => h) rfl ?_ ?_
  rotate_left
  · intro W hW
    have q : W.cell? ⟨w.heap.size, 0, none⟩ = some (.int .i64 p) := (KB.out.below hW.old KB.out.lt).cell 0
    go_simp
    try with_reducible rfl
  try simp only [Act.put, List.setIfInBounds_toArray, List.set_cons_zero, List.set_cons_succ]
  refine Reg.take 6 (v := ?_) rfl (by kernel_rfl) (fun _ _ _ h => h) rfl ?_ ?_
  rotate_left
  · intro W hW
    go_simp
    try with_reducible rfl
  try simp only [Act.put, List.setIfInBounds_toArray, List.set_cons_zero, List.set_cons_succ]
  refine Reg.take 7 (v := ?_) rfl (by kernel_rfl) (fun _ _ _ h => h) rfl ?_ ?_
  rotate_left
  · intro W hW
    go_simp
    try with_reducible rfl
  try simp only [Act.put, List.setIfInBounds_toArray, List.set_cons_zero, List.set_cons_succ]
  refine Reg.take 8 (v := ?_) rfl (by kernel_rfl) (fun _ _ _ h => h) rfl ?_ ?_
  rotate_left
  · intro W hW
    go_simp
    try with_reducible rfl
  try simp only [Act.put, List.setIfInBounds_toArray, List.set_cons_zero, List.set_cons_succ]
  refine Reg.take 9 (v := ?_) rfl (by kernel_rfl) (fun _ _ _ h => h) rfl ?_ ?_
  rotate_left
  · intro W hW
    have q : W.cell? ⟨g, 0, none⟩ = some (.int .i64 s.n) := (HR.out.b.below hW.old HR.out.b.lt).cell 0
    go_simp
    try with_reducible rfl
  try simp only [Act.put, List.setIfInBounds_toArray, List.set_cons_zero, List.set_cons_succ]
  refine Reg.take 10 (v := ?_) rfl (by kernel_rfl) (fun _ _ _ h => h) rfl ?_ ?_
  rotate_left
  · intro W hW
    go_simp
    try with_reducible rfl
  try simp only [Act.put, List.setIfInBounds_toArray, List.set_cons_zero, List.set_cons_succ]
  refine Reg.take 11 (v := ?_) rfl (by kernel_rfl) (fun _ _ _ h => h) rfl ?_ ?_
  rotate_left
  · intro W hW
    go_simp
    try with_reducible rfl
  try simp only [Act.put, List.setIfInBounds_toArray, List.set_cons_zero, List.set_cons_succ]
  refine Reg.take 12 (v := ?_) rfl (by kernel_rfl) (fun _ _ _ h => h) rfl ?_ ?_
  rotate_left
  · intro W hW
    go_simp
    try with_reducible rfl
  try simp only [Act.put, List.setIfInBounds_toArray, List.set_cons_zero, List.set_cons_succ]
  refine Reg.done (by kernel_rfl) ?_
  go_wp2_with fail
  go_ret
  exact rf_same HO.out (BE.out.trans (Below.mono ((Below.refl _ W0).drew) BE.out.size))

set_option maxRecDepth 100000 in
set_option maxHeartbeats 2000000 in
theorem revealR_8 (g : Nat) (vc vr : Value) (s : St) (ts : List (Int × Int × Int)) (p x n : Int) (w : World) (h : Rf w g vc vr s ts) (hi : 1 ≤ p ∧ p ≤ s.n) (hl : s.lock = false) :
    Calls Try.prog 19 #[.pointer (some ⟨g, 0, none⟩), .agg #[.int .i64 p, .int .u64 x, .int .u64 n]] w (RfPost g vc vr s (.int .i64 8) w) := by
  have hi1 : decide (p < 1) = false := by simp; omega
  have hi2 : decide (s.n < p) = false := by simp; omega
  clear hi
  obtain ⟨W0, hW0⟩ : ∃ W0, W0 = w.alloc (.cells #[.int .i64 p, .int .u64 x, .int .u64 n] 24) := ⟨_, rfl⟩
  have HR : Hid (Rf W0 g vc vr s ts) := by rw [hW0]; exact h.below ((Below.refl _ w).alloc (Nat.le_refl _) _)
  have KB : Hid (Blk W0 w.heap.size 24 #[.int .i64 p, .int .u64 x, .int .u64 n]) := by rw [hW0]; exact Blk.new _ _ _
  have BE : Hid (Below w.heap.size w W0) := by rw [hW0]; exact (Below.refl _ w).alloc (Nat.le_refl _) _
  have HO := Lib.hid h
  have HW := Lib.hid hW0
  clear hW0 h
  have q2 : W0.drew.cell? ⟨g, 2, none⟩ = some (.bool false) := by have := HR.out.b.cell 2; unfold rcells at this; rw [hl] at this; exact this
  clear hl
  go_enter Try.func19, Try.ntmps19
  go_wp2_with fail
  rw [← HW.out]
  clear HW
  refine Reg.start (by kernel_rfl) ?_
  refine Reg.take 0 (v := ?_) rfl (by kernel_rfl) (fun _ _ _ h => h) rfl ?_ ?_
  rotate_left
  · intro W hW
    go_simp
    try with_reducible rfl
  try simp only [Act.put, List.setIfInBounds_toArray, List.set_cons_zero, List.set_cons_succ]
  refine Reg.take 1 (v := ?_) rfl (by kernel_rfl) (fun _ _ _ h => h) rfl ?_ ?_
  rotate_left
  · intro W hW
    have q : W.cell? ⟨w.heap.size, 0, none⟩ = some (.int .i64 p) := (KB.out.below hW.old KB.out.lt).cell 0
    go_simp
    try with_reducible rfl
  try simp only [Act.put, List.setIfInBounds_toArray, List.set_cons_zero, List.set_cons_succ]
  refine Reg.take 2 (v := ?_) rfl (by kernel_rfl) (fun _ _ _ h => h) rfl ?_ ?_
  rotate_left
  · intro W hW
    go_simp
    try with_reducible rfl
  try simp only [Act.put, List.setIfInBounds_toArray, List.set_cons_zero, List.set_cons_succ]
  refine Reg.take 3 (v := ?_) rfl (by kernel_rfl) (fun _ _ _ h => h) rfl ?_ ?_
  rotate_left
  · intro W hW
    go_simp
    try with_reducible rfl
  try simp only [Act.put, List.setIfInBounds_toArray, List.set_cons_zero, List.set_cons_succ]
  refine Reg.take 4 (v := ?_) rfl (by kernel_rfl) (fun _ _ _ h => h) rfl ?_ ?_
  rotate_left
  · intro W hW
    go_simp
    try with_reducible rfl
  try simp only [Act.put, List.setIfInBounds_toArray, List.set_cons_zero, List.set_cons_succ]
  refine Reg.take 5 (v := ?_) rfl (by kernel_rfl) (fun _ _ _ h => h) rfl ?_ ?_
  rotate_left
  · intro W hW
    have q : W.cell? ⟨w.heap.size, 0, none⟩ = some (.int .i64 p) := (KB.out.below hW.old KB.out.lt).cell 0
    go_simp
    try with_reducible rfl
  try simp only [Act.put, List.setIfInBounds_toArray, List.set_cons_zero, List.set_cons_succ]
  refine Reg.take 6 (v := ?_) rfl (by kernel_rfl) (fun _ _ _ h => h) rfl ?_ ?_
  rotate_left
  · intro W hW
    go_simp
    try with_reducible rfl
  try simp only [Act.put, List.setIfInBounds_toArray, List.set_cons_zero, List.set_cons_succ]
  refine Reg.take 7 (v := ?_) rfl (by kernel_rfl) (fun _ _ _ h => h) rfl ?_ ?_
  rotate_left
  · intro W hW
    go_simp
    try with_reducible rfl
  try simp only [Act.put, List.setIfInBounds_toArray, List.set_cons_zero, List.set_cons_succ]
  refine Reg.take 8 (v := ?_) rfl (by kernel_rfl) (fun _ _ _ h => h) rfl ?_ ?_
  rotate_left
  · intro W hW
    go_simp
    try with_reducible rfl
  try simp only [Act.put, List.setIfInBounds_toArray, List.set_cons_zero, List.set_cons_succ]
  refine Reg.take 9 (v := ?_) rfl (by kernel_rfl) (fun _ _ _ h => h) rfl ?_ ?_
  rotate_left
  · intro W hW
    have q : W.cell? ⟨g, 0, none⟩ = some (.int .i64 s.n) := (HR.out.b.below hW.old HR.out.b.lt).cell 0
    go_simp
    try with_reducible rfl
  try simp only [Act.put, List.setIfInBounds_toArray, List.set_cons_zero, List.set_cons_succ]
  refine Reg.take 10 (v := ?_) rfl (by kernel_rfl) (fun _ _ _ h => h) rfl ?_ ?_
  rotate_left
  · intro W hW
    go_simp
    try with_reducible rfl
  try simp only [Act.put, List.setIfInBounds_toArray, List.set_cons_zero, List.set_cons_succ]
  refine Reg.take 11 (v := ?_) rfl (by kernel_rfl) (fun _ _ _ h => h) rfl ?_ ?_
  rotate_left
  · intro W hW
    go_simp
    try with_reducible rfl
  try simp only [Act.put, List.setIfInBounds_toArray, List.set_cons_zero, List.set_cons_succ]
  refine Reg.take 12 (v := ?_) rfl (by kernel_rfl) (fun _ _ _ h => h) rfl ?_ ?_
  rotate_left
  · intro W hW
    go_simp
    try with_reducible rfl
  try simp only [Act.put, List.setIfInBounds_toArray, List.set_cons_zero, List.set_cons_succ]
  refine Reg.done (by kernel_rfl) ?_
  go_wp2_with fail
  go_ret
  exact rf_same HO.out (BE.out.trans (Below.mono ((Below.refl _ W0).drew) BE.out.size))

set_option maxRecDepth 100000 in
set_option maxHeartbeats 2000000 in
theorem revealR_5 (g : Nat) (vc vr : Value) (s : St) (ts : List (Int × Int × Int)) (p x n : Int) (w : World) (h : Rf w g vc vr s ts) (hi : 1 ≤ p ∧ p ≤ s.n) (hl : s.lock = true) (hlen : s.cs.length ≤ 100) (hf : findK s.cs p = none) :
    Calls Try.prog 19 #[.pointer (some ⟨g, 0, none⟩), .agg #[.int .i64 p, .int .u64 x, .int .u64 n]] w (RfPost g vc vr s (.int .i64 5) w) := by
  have hi1 : decide (p < 1) = false := by simp; omega
  have hi2 : decide (s.n < p) = false := by simp; omega
  clear hi
  have HPV : Hid (posK s.cs p 0 = -1) := posK_none hf 0
  clear hf
  obtain ⟨W0, hW0⟩ : ∃ W0, W0 = w.alloc (.cells #[.int .i64 p, .int .u64 x, .int .u64 n] 24) := ⟨_, rfl⟩
  have HR : Hid (Rf W0 g vc vr s ts) := by rw [hW0]; exact h.below ((Below.refl _ w).alloc (Nat.le_refl _) _)
  have KB : Hid (Blk W0 w.heap.size 24 #[.int .i64 p, .int .u64 x, .int .u64 n]) := by rw [hW0]; exact Blk.new _ _ _
  have BE : Hid (Below w.heap.size w W0) := by rw [hW0]; exact (Below.refl _ w).alloc (Nat.le_refl _) _
  have HO := Lib.hid h
  have HW := Lib.hid hW0
  clear hW0 h
  have q2 : W0.drew.cell? ⟨g, 2, none⟩ = some (.bool true) := by have := HR.out.b.cell 2; unfold rcells at this; rw [hl] at this; exact this
  clear hl
  go_enter Try.func19, Try.ntmps19
  go_wp2_with fail
  rw [← HW.out]
  clear HW
  refine Reg.start (by kernel_rfl) ?_
  refine Reg.take 0 (v := ?_) rfl (by kernel_rfl) (fun _ _ _ h => h) rfl ?_ ?_
  rotate_left
  · intro W hW
    go_simp
    try with_reducible rfl
  try simp only [Act.put, List.setIfInBounds_toArray, List.set_cons_zero, List.set_cons_succ]
  refine Reg.take 1 (v := ?_) rfl (by kernel_rfl) (fun _ _ _ h => h) rfl ?_ ?_
  rotate_left
  · intro W hW
    have q : W.cell? ⟨w.heap.size, 0, none⟩ = some (.int .i64 p) := (KB.out.below hW.old KB.out.lt).cell 0
    go_simp
    try with_reducible rfl
  try simp only [Act.put, List.setIfInBounds_toArray, List.set_cons_zero, List.set_cons_succ]
  refine Reg.take 2 (v := ?_) rfl (by kernel_rfl) (fun _ _ _ h => h) rfl ?_ ?_
  rotate_left
  · intro W hW
    go_simp
    try with_reducible rfl
  try simp only [Act.put, List.setIfInBounds_toArray, List.set_cons_zero, List.set_cons_succ]
  refine Reg.take 3 (v := ?_) rfl (by kernel_rfl) (fun _ _ _ h => h) rfl ?_ ?_
  rotate_left
  · intro W hW
    go_simp
    try with_reducible rfl
  try simp only [Act.put, List.setIfInBounds_toArray, List.set_cons_zero, List.set_cons_succ]
  refine Reg.take 4 (v := ?_) rfl (by kernel_rfl) (fun _ _ _ h => h) rfl ?_ ?_
  rotate_left
  · intro W hW
    go_simp
    try with_reducible rfl
  try simp only [Act.put, List.setIfInBounds_toArray, List.set_cons_zero, List.set_cons_succ]
  refine Reg.take 5 (v := ?_) rfl (by kernel_rfl) (fun _ _ _ h => h) rfl ?_ ?_
  rotate_left
  · intro W hW
    have q : W.cell? ⟨w.heap.size, 0, none⟩ = some (.int .i64 p) := (KB.out.below hW.old KB.out.lt).cell 0
    go_simp
    try with_reducible rfl
  try simp only [Act.put, List.setIfInBounds_toArray, List.set_cons_zero, List.set_cons_succ]
  refine Reg.take 6 (v := ?_) rfl (by kernel_rfl) (fun _ _ _ h => h) rfl ?_ ?_
  rotate_left
  · intro W hW
    go_simp
    try with_reducible rfl
  try simp only [Act.put, List.setIfInBounds_toArray, List.set_cons_zero, List.set_cons_succ]
  refine Reg.take 7 (v := ?_) rfl (by kernel_rfl) (fun _ _ _ h => h) rfl ?_ ?_
  rotate_left
  · intro W hW
    go_simp
    try with_reducible rfl
  try simp only [Act.put, List.setIfInBounds_toArray, List.set_cons_zero, List.set_cons_succ]
  refine Reg.take 8 (v := ?_) rfl (by kernel_rfl) (fun _ _ _ h => h) rfl ?_ ?_
  rotate_left
  · intro W hW
    go_simp
    try with_reducible rfl
  try simp only [Act.put, List.setIfInBounds_toArray, List.set_cons_zero, List.set_cons_succ]
  refine Reg.take 9 (v := ?_) rfl (by kernel_rfl) (fun _ _ _ h => h) rfl ?_ ?_
  rotate_left
  · intro W hW
    have q : W.cell? ⟨g, 0, none⟩ = some (.int .i64 s.n) := (HR.out.b.below hW.old HR.out.b.lt).cell 0
    go_simp
    try with_reducible rfl
  try simp only [Act.put, List.setIfInBounds_toArray, List.set_cons_zero, List.set_cons_succ]
  refine Reg.take 10 (v := ?_) rfl (by kernel_rfl) (fun _ _ _ h => h) rfl ?_ ?_
  rotate_left
  · intro W hW
    go_simp
    try with_reducible rfl
  try simp only [Act.put, List.setIfInBounds_toArray, List.set_cons_zero, List.set_cons_succ]
  refine Reg.take 11 (v := ?_) rfl (by kernel_rfl) (fun _ _ _ h => h) rfl ?_ ?_
  rotate_left
  · intro W hW
    go_simp
    try with_reducible rfl
  try simp only [Act.put, List.setIfInBounds_toArray, List.set_cons_zero, List.set_cons_succ]
  refine Reg.take 12 (v := ?_) rfl (by kernel_rfl) (fun _ _ _ h => h) rfl ?_ ?_
  rotate_left
  · intro W hW
    go_simp
    try with_reducible rfl
  try simp only [Act.put, List.setIfInBounds_toArray, List.set_cons_zero, List.set_cons_succ]
  refine Reg.done (by kernel_rfl) ?_
  have kx : W0.drew.cell? ⟨w.heap.size, 0, none⟩ = some (.int .i64 p) := KB.out.cell 0
  have HRd : Hid (Rf W0.drew g vc vr s ts) := HR.out.below (Below.refl _ W0).drew
  go_wp2_with fail
  refine (committed_any g vc vr s ts p _ HRd.out hlen).mono ?_
  rw [HPV.out]
  rintro e w' ⟨rfl, rfl⟩
  go_wp2_with fail
  go_ret
  exact rf_same HO.out (BE.out.trans (Below.mono ((Below.refl _ W0).drew) BE.out.size))

set_option maxRecDepth 100000 in
set_option maxHeartbeats 2000000 in
theorem revealR_6 (g : Nat) (vc vr : Value) (s : St) (ts : List (Int × Int × Int)) (p x n : Int) (w : World) (h : Rf w g vc vr s ts) (c c2 : Int) (hi : 1 ≤ p ∧ p ≤ s.n) (hl : s.lock = true) (hlen : s.cs.length ≤ 100) (hlr : s.rs.length ≤ 100) (hf : findK s.cs p = some c) (hr : findK s.rs p = some c2) :
    Calls Try.prog 19 #[.pointer (some ⟨g, 0, none⟩), .agg #[.int .i64 p, .int .u64 x, .int .u64 n]] w (RfPost g vc vr s (.int .i64 6) w) := by
  have hi1 : decide (p < 1) = false := by simp; omega
  have hi2 : decide (s.n < p) = false := by simp; omega
  clear hi
  obtain ⟨j, hj, hjat⟩ := posK_some hf 0
  have HPV : Hid (posK s.cs p 0 = (j : Int)) := by show _ = _; rw [hj, Nat.zero_add]
  have HJA := Lib.hid hjat
  clear hf hj hjat
  obtain ⟨j2, hj2, _⟩ := posK_some hr 0
  have HPR : Hid (posK s.rs p 0 = (j2 : Int)) := by show _ = _; rw [hj2, Nat.zero_add]
  clear hr hj2
  obtain ⟨W0, hW0⟩ : ∃ W0, W0 = w.alloc (.cells #[.int .i64 p, .int .u64 x, .int .u64 n] 24) := ⟨_, rfl⟩
  have HR : Hid (Rf W0 g vc vr s ts) := by rw [hW0]; exact h.below ((Below.refl _ w).alloc (Nat.le_refl _) _)
  have KB : Hid (Blk W0 w.heap.size 24 #[.int .i64 p, .int .u64 x, .int .u64 n]) := by rw [hW0]; exact Blk.new _ _ _
  have BE : Hid (Below w.heap.size w W0) := by rw [hW0]; exact (Below.refl _ w).alloc (Nat.le_refl _) _
  have HO := Lib.hid h
  have HW := Lib.hid hW0
  clear hW0 h
  have q2 : W0.drew.cell? ⟨g, 2, none⟩ = some (.bool true) := by have := HR.out.b.cell 2; unfold rcells at this; rw [hl] at this; exact this
  clear hl
  go_enter Try.func19, Try.ntmps19
  go_wp2_with fail
  rw [← HW.out]
  clear HW
  refine Reg.start (by kernel_rfl) ?_
  refine Reg.take 0 (v := ?_) rfl (by kernel_rfl) (fun _ _ _ h => h) rfl ?_ ?_
  rotate_left
  · intro W hW
    go_simp
    try with_reducible rfl
  try simp only [Act.put, List.setIfInBounds_toArray, List.set_cons_zero, List.set_cons_succ]
  refine Reg.take 1 (v := ?_) rfl (by kernel_rfl) (fun _ _ _ h => h) rfl ?_ ?_
  rotate_left
  · intro W hW
    have q : W.cell? ⟨w.heap.size, 0, none⟩ = some (.int .i64 p) := (KB.out.below hW.old KB.out.lt).cell 0
    go_simp
    try with_reducible rfl
  try simp only [Act.put, List.setIfInBounds_toArray, List.set_cons_zero, List.set_cons_succ]
  refine Reg.take 2 (v := ?_) rfl (by kernel_rfl) (fun _ _ _ h => h) rfl ?_ ?_
  rotate_left
  · intro W hW
    go_simp
    try with_reducible rfl
  try simp only [Act.put, List.setIfInBounds_toArray, List.set_cons_zero, List.set_cons_succ]
  refine Reg.take 3 (v := ?_) rfl (by kernel_rfl) (fun _ _ _ h => h) rfl ?_ ?_
  rotate_left
  · intro W hW
    go_simp
    try with_reducible rfl
  try simp only [Act.put, List.setIfInBounds_toArray, List.set_cons_zero, List.set_cons_succ]
  refine Reg.take 4 (v := ?_) rfl (by kernel_rfl) (fun _ _ _ h => h) rfl ?_ ?_
  rotate_left
  · intro W hW
    go_simp
    try with_reducible rfl
  try simp only [Act.put, List.setIfInBounds_toArray, List.set_cons_zero, List.set_cons_succ]
  refine Reg.take 5 (v := ?_) rfl (by kernel_rfl) (fun _ _ _ h => h) rfl ?_ ?_
  rotate_left
  · intro W hW
    have q : W.cell? ⟨w.heap.size, 0, none⟩ = some (.int .i64 p) := (KB.out.below hW.old KB.out.lt).cell 0
    go_simp
    try with_reducible rfl
  try simp only [Act.put, List.setIfInBounds_toArray, List.set_cons_zero, List.set_cons_succ]
  refine Reg.take 6 (v := ?_) rfl (by kernel_rfl) (fun _ _ _ h => h) rfl ?_ ?_
  rotate_left
  · intro W hW
    go_simp
    try with_reducible rfl
  try simp only [Act.put, List.setIfInBounds_toArray, List.set_cons_zero, List.set_cons_succ]
  refine Reg.take 7 (v := ?_) rfl (by kernel_rfl) (fun _ _ _ h => h) rfl ?_ ?_
  rotate_left
  · intro W hW
    go_simp
    try with_reducible rfl
  try simp only [Act.put, List.setIfInBounds_toArray, List.set_cons_zero, List.set_cons_succ]
  refine Reg.take 8 (v := ?_) rfl (by kernel_rfl) (fun _ _ _ h => h) rfl ?_ ?_
  rotate_left
  · intro W hW
    go_simp
    try with_reducible rfl
  try simp only [Act.put, List.setIfInBounds_toArray, List.set_cons_zero, List.set_cons_succ]
  refine Reg.take 9 (v := ?_) rfl (by kernel_rfl) (fun _ _ _ h => h) rfl ?_ ?_
  rotate_left
  · intro W hW
    have q : W.cell? ⟨g, 0, none⟩ = some (.int .i64 s.n) := (HR.out.b.below hW.old HR.out.b.lt).cell 0
    go_simp
    try with_reducible rfl
  try simp only [Act.put, List.setIfInBounds_toArray, List.set_cons_zero, List.set_cons_succ]
  refine Reg.take 10 (v := ?_) rfl (by kernel_rfl) (fun _ _ _ h => h) rfl ?_ ?_
  rotate_left
  · intro W hW
    go_simp
    try with_reducible rfl
  try simp only [Act.put, List.setIfInBounds_toArray, List.set_cons_zero, List.set_cons_succ]
  refine Reg.take 11 (v := ?_) rfl (by kernel_rfl) (fun _ _ _ h => h) rfl ?_ ?_
  rotate_left
  · intro W hW
    go_simp
    try with_reducible rfl
  try simp only [Act.put, List.setIfInBounds_toArray, List.set_cons_zero, List.set_cons_succ]
  refine Reg.take 12 (v := ?_) rfl (by kernel_rfl) (fun _ _ _ h => h) rfl ?_ ?_
  rotate_left
  · intro W hW
    go_simp
    try with_reducible rfl
  try simp only [Act.put, List.setIfInBounds_toArray, List.set_cons_zero, List.set_cons_succ]
  refine Reg.done (by kernel_rfl) ?_
  have kx : W0.drew.cell? ⟨w.heap.size, 0, none⟩ = some (.int .i64 p) := KB.out.cell 0
  have HRd : Hid (Rf W0.drew g vc vr s ts) := HR.out.below (Below.refl _ W0).drew
  go_wp2_with fail
  refine (committed_any g vc vr s ts p _ HRd.out hlen).mono ?_
  rw [HPV.out]
  rintro e w' ⟨rfl, rfl⟩
  have tj : (0 : Int) ≤ (j : Int) := by omega
  have tj2 : decide ((j : Int) < 0) = false := by simp <;> omega
  go_wp2_with fail
  refine (opened_any g vc vr s ts p _ HRd.out hlr).mono ?_
  rw [HPR.out]
  rintro e w' ⟨rfl, rfl⟩
  have tk : (0 : Int) ≤ (j2 : Int) := by omega
  go_wp2_with fail
  go_ret
  exact rf_same HO.out (BE.out.trans (Below.mono ((Below.refl _ W0).drew) BE.out.size))

set_option maxRecDepth 100000 in
set_option maxHeartbeats 2000000 in
theorem revealR_15 (g : Nat) (vc vr : Value) (s : St) (ts : List (Int × Int × Int)) (p x n : Int) (w : World) (h : Rf w g vc vr s ts) (c : Int) (hi : 1 ≤ p ∧ p ≤ s.n) (hl : s.lock = true) (hlen : s.cs.length ≤ 100) (hlr : s.rs.length ≤ 100) (hf : findK s.cs p = some c) (hr : findK s.rs p = none) (hn : U64 n) (hd : ¬ digI p x n = c) :
    Calls Try.prog 19 #[.pointer (some ⟨g, 0, none⟩), .agg #[.int .i64 p, .int .u64 x, .int .u64 n]] w (RfPost g vc vr s (.int .i64 15) w) := by
  have hne : (c != digI p x n) = true := by simp; exact fun e => hd e.symm
  have HN := Lib.hid hn
  clear hd hn
  have hi1 : decide (p < 1) = false := by simp; omega
  have hi2 : decide (s.n < p) = false := by simp; omega
  clear hi
  obtain ⟨j, hj, hjat⟩ := posK_some hf 0
  have HPV : Hid (posK s.cs p 0 = (j : Int)) := by show _ = _; rw [hj, Nat.zero_add]
  have HJA := Lib.hid hjat
  clear hf hj hjat
  have HPR : Hid (posK s.rs p 0 = -1) := posK_none hr 0
  clear hr
  obtain ⟨W0, hW0⟩ : ∃ W0, W0 = w.alloc (.cells #[.int .i64 p, .int .u64 x, .int .u64 n] 24) := ⟨_, rfl⟩
  have HR : Hid (Rf W0 g vc vr s ts) := by rw [hW0]; exact h.below ((Below.refl _ w).alloc (Nat.le_refl _) _)
  have KB : Hid (Blk W0 w.heap.size 24 #[.int .i64 p, .int .u64 x, .int .u64 n]) := by rw [hW0]; exact Blk.new _ _ _
  have BE : Hid (Below w.heap.size w W0) := by rw [hW0]; exact (Below.refl _ w).alloc (Nat.le_refl _) _
  have HO := Lib.hid h
  have HW := Lib.hid hW0
  clear hW0 h
  have q2 : W0.drew.cell? ⟨g, 2, none⟩ = some (.bool true) := by have := HR.out.b.cell 2; unfold rcells at this; rw [hl] at this; exact this
  clear hl
  go_enter Try.func19, Try.ntmps19
  go_wp2_with fail
  rw [← HW.out]
  clear HW
  refine Reg.start (by kernel_rfl) ?_
  refine Reg.take 0 (v := ?_) rfl (by kernel_rfl) (fun _ _ _ h => h) rfl ?_ ?_
  rotate_left
  · intro W hW
    go_simp
    try with_reducible rfl
  try simp only [Act.put, List.setIfInBounds_toArray, List.set_cons_zero, List.set_cons_succ]
  refine Reg.take 1 (v := ?_) rfl (by kernel_rfl) (fun _ _ _ h => h) rfl ?_ ?_
  rotate_left
  · intro W hW
    have q : W.cell? ⟨w.heap.size, 0, none⟩ = some (.int .i64 p) := (KB.out.below hW.old KB.out.lt).cell 0
    go_simp
    try with_reducible rfl
  try simp only [Act.put, List.setIfInBounds_toArray, List.set_cons_zero, List.set_cons_succ]
  refine Reg.take 2 (v := ?_) rfl (by kernel_rfl) (fun _ _ _ h => h) rfl ?_ ?_
  rotate_left
  · intro W hW
    go_simp
    try with_reducible rfl
  try simp only [Act.put, List.setIfInBounds_toArray, List.set_cons_zero, List.set_cons_succ]
  refine Reg.take 3 (v := ?_) rfl (by kernel_rfl) (fun _ _ _ h => h) rfl ?_ ?_
  rotate_left
  · intro W hW
    go_simp
    try with_reducible rfl
  try simp only [Act.put, List.setIfInBounds_toArray, List.set_cons_zero, List.set_cons_succ]
  refine Reg.take 4 (v := ?_) rfl (by kernel_rfl) (fun _ _ _ h => h) rfl ?_ ?_
  rotate_left
  · intro W hW
    go_simp
    try with_reducible rfl
  try simp only [Act.put, List.setIfInBounds_toArray, List.set_cons_zero, List.set_cons_succ]
  refine Reg.take 5 (v := ?_) rfl (by kernel_rfl) (fun _ _ _ h => h) rfl ?_ ?_
  rotate_left
  · intro W hW
    have q : W.cell? ⟨w.heap.size, 0, none⟩ = some (.int .i64 p) := (KB.out.below hW.old KB.out.lt).cell 0
    go_simp
    try with_reducible rfl
  try simp only [Act.put, List.setIfInBounds_toArray, List.set_cons_zero, List.set_cons_succ]
  refine Reg.take 6 (v := ?_) rfl (by kernel_rfl) (fun _ _ _ h => h) rfl ?_ ?_
  rotate_left
  · intro W hW
    go_simp
    try with_reducible rfl
  try simp only [Act.put, List.setIfInBounds_toArray, List.set_cons_zero, List.set_cons_succ]
  refine Reg.take 7 (v := ?_) rfl (by kernel_rfl) (fun _ _ _ h => h) rfl ?_ ?_
  rotate_left
  · intro W hW
    go_simp
    try with_reducible rfl
  try simp only [Act.put, List.setIfInBounds_toArray, List.set_cons_zero, List.set_cons_succ]
  refine Reg.take 8 (v := ?_) rfl (by kernel_rfl) (fun _ _ _ h => h) rfl ?_ ?_
  rotate_left
  · intro W hW
    go_simp
    try with_reducible rfl
  try simp only [Act.put, List.setIfInBounds_toArray, List.set_cons_zero, List.set_cons_succ]
  refine Reg.take 9 (v := ?_) rfl (by kernel_rfl) (fun _ _ _ h => h) rfl ?_ ?_
  rotate_left
  · intro W hW
    have q : W.cell? ⟨g, 0, none⟩ = some (.int .i64 s.n) := (HR.out.b.below hW.old HR.out.b.lt).cell 0
    go_simp
    try with_reducible rfl
  try simp only [Act.put, List.setIfInBounds_toArray, List.set_cons_zero, List.set_cons_succ]
  refine Reg.take 10 (v := ?_) rfl (by kernel_rfl) (fun _ _ _ h => h) rfl ?_ ?_
  rotate_left
  · intro W hW
    go_simp
    try with_reducible rfl
  try simp only [Act.put, List.setIfInBounds_toArray, List.set_cons_zero, List.set_cons_succ]
  refine Reg.take 11 (v := ?_) rfl (by kernel_rfl) (fun _ _ _ h => h) rfl ?_ ?_
  rotate_left
  · intro W hW
    go_simp
    try with_reducible rfl
  try simp only [Act.put, List.setIfInBounds_toArray, List.set_cons_zero, List.set_cons_succ]
  refine Reg.take 12 (v := ?_) rfl (by kernel_rfl) (fun _ _ _ h => h) rfl ?_ ?_
  rotate_left
  · intro W hW
    go_simp
    try with_reducible rfl
  try simp only [Act.put, List.setIfInBounds_toArray, List.set_cons_zero, List.set_cons_succ]
  refine Reg.done (by kernel_rfl) ?_
  have kx : W0.drew.cell? ⟨w.heap.size, 0, none⟩ = some (.int .i64 p) := KB.out.cell 0
  have HRd : Hid (Rf W0.drew g vc vr s ts) := HR.out.below (Below.refl _ W0).drew
  go_wp2_with fail
  refine (committed_any g vc vr s ts p _ HRd.out hlen).mono ?_
  rw [HPV.out]
  rintro e w' ⟨rfl, rfl⟩
  have tj : (0 : Int) ≤ (j : Int) := by omega
  have tj2 : decide ((j : Int) < 0) = false := by simp <;> omega
  go_wp2_with fail
  refine (opened_any g vc vr s ts p _ HRd.out hlr).mono ?_
  rw [HPR.out]
  rintro e w' ⟨rfl, rfl⟩
  go_wp2_with fail
  obtain ⟨A0, c0, hv0, hs0⟩ := own_form HR.out.oc
  have HVC := Lib.hid hv0
  have hjl : j < s.cs.length := (List.getElem?_eq_some_iff.1 HJA.out).1
  obtain ⟨b0, o0, rfl, hc0⟩ := hs0.open_ (by omega)
  have hcell := hc0 (j * 2 + 1) _ (cells2_at HJA.out).2
  have HCL : Hid (∀ W, Below W0.heap.size W0 W → W.cell? ⟨g, 3, none⟩ = some (.slice (some ⟨b0, o0, none⟩) s.cs.length c0) ∧ W.cell? ⟨b0, o0 + j * 2 + 1, none⟩ = some (.int .u64 c)) := fun W hb => ⟨by rw [← HVC.out]; exact (HR.out.b.below hb HR.out.b.lt).cell 3, (hb.cell (p := ⟨b0, o0 + j * 2 + 1, none⟩) (World.block_lt_of_cell? W0 ⟨b0, o0 + j * 2 + 1, none⟩ (by rw [Nat.add_assoc]; exact hcell))).trans (by rw [Nat.add_assoc]; exact hcell)⟩
  have hji : (j : Int) < (s.cs.length : Int) := by omega
  clear hv0 hs0 hc0 hcell q2 kx
  refine Reg.start (by kernel_rfl) ?_
  have B1 : Hid (Below W0.heap.size W0 W0.drew.drew) := (Below.refl _ W0).drew.drew
  refine Reg.take 0 (v := ?_) rfl (by kernel_rfl) (fun _ _ _ h => h) rfl ?_ ?_
  rotate_left
  · intro W hW
    go_simp
    try with_reducible rfl
  try simp only [Act.put, List.setIfInBounds_toArray, List.set_cons_zero, List.set_cons_succ]
  refine Reg.take 1 (v := ?_) rfl (by kernel_rfl) (fun _ _ _ h => h) rfl ?_ ?_
  rotate_left
  · intro W hW
    go_simp
    try with_reducible rfl
  try simp only [Act.put, List.setIfInBounds_toArray, List.set_cons_zero, List.set_cons_succ]
  refine Reg.take 2 (v := ?_) rfl (by kernel_rfl) (fun _ _ _ h => h) rfl ?_ ?_
  rotate_left
  · intro W hW
    go_simp
    try with_reducible rfl
  try simp only [Act.put, List.setIfInBounds_toArray, List.set_cons_zero, List.set_cons_succ]
  refine Reg.take 3 (v := ?_) rfl (by kernel_rfl) (fun _ _ _ h => h) rfl ?_ ?_
  rotate_left
  · intro W hW
    have q := (HCL.out W (B1.out.trans (hW.all.mono B1.out.size))).1
    go_simp
    try with_reducible rfl
  try simp only [Act.put, List.setIfInBounds_toArray, List.set_cons_zero, List.set_cons_succ]
  refine Reg.take 4 (v := ?_) rfl (by kernel_rfl) (fun _ _ _ h => h) rfl ?_ ?_
  rotate_left
  · intro W hW
    go_simp
    try with_reducible rfl
  try simp only [Act.put, List.setIfInBounds_toArray, List.set_cons_zero, List.set_cons_succ]
  refine Reg.take 5 (v := ?_) rfl (by kernel_rfl) (fun _ _ _ h => h) rfl ?_ ?_
  rotate_left
  · intro W hW
    go_simp
    try with_reducible rfl
  try simp only [Act.put, List.setIfInBounds_toArray, List.set_cons_zero, List.set_cons_succ]
  refine Reg.take 6 (v := ?_) rfl (by kernel_rfl) (fun _ _ _ h => h) rfl ?_ ?_
  rotate_left
  · intro W hW
    have q : W.cell? ⟨w.heap.size, 0, none⟩ = some (.int .i64 p) := (KB.out.below (B1.out.trans (hW.all.mono B1.out.size)) KB.out.lt).cell 0
    go_simp
    try with_reducible rfl
  try simp only [Act.put, List.setIfInBounds_toArray, List.set_cons_zero, List.set_cons_succ]
  refine Reg.take 11 (v := ?_) rfl (by kernel_rfl) (fun _ _ _ h => h) rfl ?_ ?_
  rotate_left
  · intro W hW
    have l0 : (loadRow 24 (.pointer (some ⟨w.heap.size, 0, none⟩))).run Try.prog W = .ok (.agg #[.int .i64 p, .int .u64 x, .int .u64 n]) W := load_rv (KB.out.below (B1.out.trans (hW.all.mono B1.out.size)) KB.out.lt) rfl
    go_simp
    try with_reducible rfl
  try simp only [Act.put, List.setIfInBounds_toArray, List.set_cons_zero, List.set_cons_succ]
  refine Reg.do_ 7 rfl (by kernel_rfl) rfl (fun K hK => ?_)
  go_simp
  refine (committed_any g vc vr s ts p _ (HR.out.below B1.out) hlen).mono ?_
  rw [HPV.out]
  rintro e w1 ⟨rfl, rfl⟩
  refine hK.out _ _ (Below.refl _ _) ?_
  clear hK K
  try simp only [Act.put, List.setIfInBounds_toArray, List.set_cons_zero, List.set_cons_succ]
  refine Reg.take 8 (v := ?_) rfl (by kernel_rfl) (fun _ _ _ h => h) rfl ?_ ?_
  rotate_left
  · intro W hW
    go_simp
    try with_reducible rfl
  try simp only [Act.put, List.setIfInBounds_toArray, List.set_cons_zero, List.set_cons_succ]
  refine Reg.take 9 (v := ?_) rfl (by kernel_rfl) (fun _ _ _ h => h) rfl ?_ ?_
  rotate_left
  · intro W hW
    go_simp
    try with_reducible rfl
  try simp only [Act.put, List.setIfInBounds_toArray, List.set_cons_zero, List.set_cons_succ]
  refine Reg.take 10 (v := ?_) rfl (by kernel_rfl) (fun _ _ _ h => h) rfl ?_ ?_
  rotate_left
  · intro W hW
    have q := (HCL.out W (B1.out.trans (hW.all.mono B1.out.size))).2
    go_simp
    try with_reducible rfl
  try simp only [Act.put, List.setIfInBounds_toArray, List.set_cons_zero, List.set_cons_succ]
  refine Reg.do_ 12 rfl (by kernel_rfl) rfl (fun K hK => ?_)
  go_simp
  refine (digestR_any p x n _ HN.out).mono ?_
  rintro e w2 ⟨rfl, b2⟩
  have B2 : Hid (Below W0.heap.size W0 w2) := B1.out.trans (b2.mono B1.out.size)
  refine hK.out _ _ b2 ?_
  clear hK K b2
  generalize digI p x n = dg at *
  try simp only [Act.put, List.setIfInBounds_toArray, List.set_cons_zero, List.set_cons_succ]
  refine Reg.take 13 (v := ?_) rfl (by kernel_rfl) (fun _ _ _ h => h) rfl ?_ ?_
  rotate_left
  · intro W hW
    go_simp
    try with_reducible rfl
  try simp only [Act.put, List.setIfInBounds_toArray, List.set_cons_zero, List.set_cons_succ]
  refine Reg.take 14 (v := ?_) rfl (by kernel_rfl) (fun _ _ _ h => h) rfl ?_ ?_
  rotate_left
  · intro W hW
    go_simp
    try with_reducible rfl
  try simp only [Act.put, List.setIfInBounds_toArray, List.set_cons_zero, List.set_cons_succ]
  refine Reg.done (by kernel_rfl) ?_
  go_wp2_with fail
  go_ret
  exact rf_same HO.out (BE.out.trans (Below.mono B2.out BE.out.size))

set_option maxRecDepth 100000 in
set_option maxHeartbeats 2000000 in
theorem revealR_0 (g : Nat) (vc vr : Value) (s : St) (ts : List (Int × Int × Int)) (p x n : Int) (w : World) (h : Rf w g vc vr s ts) (c : Int) (hi : 1 ≤ p ∧ p ≤ s.n) (hl : s.lock = true) (hlen : s.cs.length ≤ 100) (hlr : s.rs.length ≤ 100) (hf : findK s.cs p = some c) (hr : findK s.rs p = none) (hn : U64 n) (hd : digI p x n = c) :
    Calls Try.prog 19 #[.pointer (some ⟨g, 0, none⟩), .agg #[.int .i64 p, .int .u64 x, .int .u64 n]] w (RfPost g vc vr ⟨s.n, s.q, s.lock, s.cs, s.rs ++ [(p, x)]⟩ (.int .i64 0) w) := by
  obtain ⟨i0, hi0, hz0, hz1, hz2⟩ := info_parts tv_info
  have hne : (c != digI p x n) = false := by simp; exact hd.symm
  have HN := Lib.hid hn
  clear hd hn
  have hi1 : decide (p < 1) = false := by simp; omega
  have hi2 : decide (s.n < p) = false := by simp; omega
  clear hi
  obtain ⟨j, hj, hjat⟩ := posK_some hf 0
  have HPV : Hid (posK s.cs p 0 = (j : Int)) := by show _ = _; rw [hj, Nat.zero_add]
  have HJA := Lib.hid hjat
  clear hf hj hjat
  have HPR : Hid (posK s.rs p 0 = -1) := posK_none hr 0
  clear hr
  obtain ⟨W0, hW0⟩ : ∃ W0, W0 = w.alloc (.cells #[.int .i64 p, .int .u64 x, .int .u64 n] 24) := ⟨_, rfl⟩
  have HR : Hid (Rf W0 g vc vr s ts) := by rw [hW0]; exact h.below ((Below.refl _ w).alloc (Nat.le_refl _) _)
  have KB : Hid (Blk W0 w.heap.size 24 #[.int .i64 p, .int .u64 x, .int .u64 n]) := by rw [hW0]; exact Blk.new _ _ _
  have BE : Hid (Below w.heap.size w W0) := by rw [hW0]; exact (Below.refl _ w).alloc (Nat.le_refl _) _
  have HO := Lib.hid h
  have HW := Lib.hid hW0
  clear hW0 h
  have q2 : W0.drew.cell? ⟨g, 2, none⟩ = some (.bool true) := by have := HR.out.b.cell 2; unfold rcells at this; rw [hl] at this; exact this
  clear hl
  go_enter Try.func19, Try.ntmps19
  go_wp2_with fail
  rw [← HW.out]
  clear HW
  refine Reg.start (by kernel_rfl) ?_
  refine Reg.take 0 (v := ?_) rfl (by kernel_rfl) (fun _ _ _ h => h) rfl ?_ ?_
  rotate_left
  · intro W hW
    go_simp
    try with_reducible rfl
  try simp only [Act.put, List.setIfInBounds_toArray, List.set_cons_zero, List.set_cons_succ]
  refine Reg.take 1 (v := ?_) rfl (by kernel_rfl) (fun _ _ _ h => h) rfl ?_ ?_
  rotate_left
  · intro W hW
    have q : W.cell? ⟨w.heap.size, 0, none⟩ = some (.int .i64 p) := (KB.out.below hW.old KB.out.lt).cell 0
    go_simp
    try with_reducible rfl
  try simp only [Act.put, List.setIfInBounds_toArray, List.set_cons_zero, List.set_cons_succ]
  refine Reg.take 2 (v := ?_) rfl (by kernel_rfl) (fun _ _ _ h => h) rfl ?_ ?_
  rotate_left
  · intro W hW
    go_simp
    try with_reducible rfl
  try simp only [Act.put, List.setIfInBounds_toArray, List.set_cons_zero, List.set_cons_succ]
  refine Reg.take 3 (v := ?_) rfl (by kernel_rfl) (fun _ _ _ h => h) rfl ?_ ?_
  rotate_left
  · intro W hW
    go_simp
    try with_reducible rfl
  try simp only [Act.put, List.setIfInBounds_toArray, List.set_cons_zero, List.set_cons_succ]
  refine Reg.take 4 (v := ?_) rfl (by kernel_rfl) (fun _ _ _ h => h) rfl ?_ ?_
  rotate_left
  · intro W hW
    go_simp
    try with_reducible rfl
  try simp only [Act.put, List.setIfInBounds_toArray, List.set_cons_zero, List.set_cons_succ]
  refine Reg.take 5 (v := ?_) rfl (by kernel_rfl) (fun _ _ _ h => h) rfl ?_ ?_
  rotate_left
  · intro W hW
    have q : W.cell? ⟨w.heap.size, 0, none⟩ = some (.int .i64 p) := (KB.out.below hW.old KB.out.lt).cell 0
    go_simp
    try with_reducible rfl
  try simp only [Act.put, List.setIfInBounds_toArray, List.set_cons_zero, List.set_cons_succ]
  refine Reg.take 6 (v := ?_) rfl (by kernel_rfl) (fun _ _ _ h => h) rfl ?_ ?_
  rotate_left
  · intro W hW
    go_simp
    try with_reducible rfl
  try simp only [Act.put, List.setIfInBounds_toArray, List.set_cons_zero, List.set_cons_succ]
  refine Reg.take 7 (v := ?_) rfl (by kernel_rfl) (fun _ _ _ h => h) rfl ?_ ?_
  rotate_left
  · intro W hW
    go_simp
    try with_reducible rfl
  try simp only [Act.put, List.setIfInBounds_toArray, List.set_cons_zero, List.set_cons_succ]
  refine Reg.take 8 (v := ?_) rfl (by kernel_rfl) (fun _ _ _ h => h) rfl ?_ ?_
  rotate_left
  · intro W hW
    go_simp
    try with_reducible rfl
  try simp only [Act.put, List.setIfInBounds_toArray, List.set_cons_zero, List.set_cons_succ]
  refine Reg.take 9 (v := ?_) rfl (by kernel_rfl) (fun _ _ _ h => h) rfl ?_ ?_
  rotate_left
  · intro W hW
    have q : W.cell? ⟨g, 0, none⟩ = some (.int .i64 s.n) := (HR.out.b.below hW.old HR.out.b.lt).cell 0
    go_simp
    try with_reducible rfl
  try simp only [Act.put, List.setIfInBounds_toArray, List.set_cons_zero, List.set_cons_succ]
  refine Reg.take 10 (v := ?_) rfl (by kernel_rfl) (fun _ _ _ h => h) rfl ?_ ?_
  rotate_left
  · intro W hW
    go_simp
    try with_reducible rfl
  try simp only [Act.put, List.setIfInBounds_toArray, List.set_cons_zero, List.set_cons_succ]
  refine Reg.take 11 (v := ?_) rfl (by kernel_rfl) (fun _ _ _ h => h) rfl ?_ ?_
  rotate_left
  · intro W hW
    go_simp
    try with_reducible rfl
  try simp only [Act.put, List.setIfInBounds_toArray, List.set_cons_zero, List.set_cons_succ]
  refine Reg.take 12 (v := ?_) rfl (by kernel_rfl) (fun _ _ _ h => h) rfl ?_ ?_
  rotate_left
  · intro W hW
    go_simp
    try with_reducible rfl
  try simp only [Act.put, List.setIfInBounds_toArray, List.set_cons_zero, List.set_cons_succ]
  refine Reg.done (by kernel_rfl) ?_
  have kx : W0.drew.cell? ⟨w.heap.size, 0, none⟩ = some (.int .i64 p) := KB.out.cell 0
  have HRd : Hid (Rf W0.drew g vc vr s ts) := HR.out.below (Below.refl _ W0).drew
  go_wp2_with fail
  refine (committed_any g vc vr s ts p _ HRd.out hlen).mono ?_
  rw [HPV.out]
  rintro e w' ⟨rfl, rfl⟩
  have tj : (0 : Int) ≤ (j : Int) := by omega
  have tj2 : decide ((j : Int) < 0) = false := by simp <;> omega
  go_wp2_with fail
  refine (opened_any g vc vr s ts p _ HRd.out hlr).mono ?_
  rw [HPR.out]
  rintro e w' ⟨rfl, rfl⟩
  go_wp2_with fail
  obtain ⟨A0, c0, hv0, hs0⟩ := own_form HR.out.oc
  have HVC := Lib.hid hv0
  have hjl : j < s.cs.length := (List.getElem?_eq_some_iff.1 HJA.out).1
  obtain ⟨b0, o0, rfl, hc0⟩ := hs0.open_ (by omega)
  have hcell := hc0 (j * 2 + 1) _ (cells2_at HJA.out).2
  have HCL : Hid (∀ W, Below W0.heap.size W0 W → W.cell? ⟨g, 3, none⟩ = some (.slice (some ⟨b0, o0, none⟩) s.cs.length c0) ∧ W.cell? ⟨b0, o0 + j * 2 + 1, none⟩ = some (.int .u64 c)) := fun W hb => ⟨by rw [← HVC.out]; exact (HR.out.b.below hb HR.out.b.lt).cell 3, (hb.cell (p := ⟨b0, o0 + j * 2 + 1, none⟩) (World.block_lt_of_cell? W0 ⟨b0, o0 + j * 2 + 1, none⟩ (by rw [Nat.add_assoc]; exact hcell))).trans (by rw [Nat.add_assoc]; exact hcell)⟩
  have hji : (j : Int) < (s.cs.length : Int) := by omega
  clear hv0 hs0 hc0 hcell q2 kx
  refine Reg.start (by kernel_rfl) ?_
  have B1 : Hid (Below W0.heap.size W0 W0.drew.drew) := (Below.refl _ W0).drew.drew
  refine Reg.take 0 (v := ?_) rfl (by kernel_rfl) (fun _ _ _ h => h) rfl ?_ ?_
  rotate_left
  · intro W hW
    go_simp
    try with_reducible rfl
  try simp only [Act.put, List.setIfInBounds_toArray, List.set_cons_zero, List.set_cons_succ]
  refine Reg.take 1 (v := ?_) rfl (by kernel_rfl) (fun _ _ _ h => h) rfl ?_ ?_
  rotate_left
  · intro W hW
    go_simp
    try with_reducible rfl
  try simp only [Act.put, List.setIfInBounds_toArray, List.set_cons_zero, List.set_cons_succ]
  refine Reg.take 2 (v := ?_) rfl (by kernel_rfl) (fun _ _ _ h => h) rfl ?_ ?_
  rotate_left
  · intro W hW
    go_simp
    try with_reducible rfl
  try simp only [Act.put, List.setIfInBounds_toArray, List.set_cons_zero, List.set_cons_succ]
  refine Reg.take 3 (v := ?_) rfl (by kernel_rfl) (fun _ _ _ h => h) rfl ?_ ?_
  rotate_left
  · intro W hW
    have q := (HCL.out W (B1.out.trans (hW.all.mono B1.out.size))).1
    go_simp
    try with_reducible rfl
  try simp only [Act.put, List.setIfInBounds_toArray, List.set_cons_zero, List.set_cons_succ]
  refine Reg.take 4 (v := ?_) rfl (by kernel_rfl) (fun _ _ _ h => h) rfl ?_ ?_
  rotate_left
  · intro W hW
    go_simp
    try with_reducible rfl
  try simp only [Act.put, List.setIfInBounds_toArray, List.set_cons_zero, List.set_cons_succ]
  refine Reg.take 5 (v := ?_) rfl (by kernel_rfl) (fun _ _ _ h => h) rfl ?_ ?_
  rotate_left
  · intro W hW
    go_simp
    try with_reducible rfl
  try simp only [Act.put, List.setIfInBounds_toArray, List.set_cons_zero, List.set_cons_succ]
  refine Reg.take 6 (v := ?_) rfl (by kernel_rfl) (fun _ _ _ h => h) rfl ?_ ?_
  rotate_left
  · intro W hW
    have q : W.cell? ⟨w.heap.size, 0, none⟩ = some (.int .i64 p) := (KB.out.below (B1.out.trans (hW.all.mono B1.out.size)) KB.out.lt).cell 0
    go_simp
    try with_reducible rfl
  try simp only [Act.put, List.setIfInBounds_toArray, List.set_cons_zero, List.set_cons_succ]
  refine Reg.take 11 (v := ?_) rfl (by kernel_rfl) (fun _ _ _ h => h) rfl ?_ ?_
  rotate_left
  · intro W hW
    have l0 : (loadRow 24 (.pointer (some ⟨w.heap.size, 0, none⟩))).run Try.prog W = .ok (.agg #[.int .i64 p, .int .u64 x, .int .u64 n]) W := load_rv (KB.out.below (B1.out.trans (hW.all.mono B1.out.size)) KB.out.lt) rfl
    go_simp
    try with_reducible rfl
  try simp only [Act.put, List.setIfInBounds_toArray, List.set_cons_zero, List.set_cons_succ]
  refine Reg.do_ 7 rfl (by kernel_rfl) rfl (fun K hK => ?_)
  go_simp
  refine (committed_any g vc vr s ts p _ (HR.out.below B1.out) hlen).mono ?_
  rw [HPV.out]
  rintro e w1 ⟨rfl, rfl⟩
  refine hK.out _ _ (Below.refl _ _) ?_
  clear hK K
  try simp only [Act.put, List.setIfInBounds_toArray, List.set_cons_zero, List.set_cons_succ]
  refine Reg.take 8 (v := ?_) rfl (by kernel_rfl) (fun _ _ _ h => h) rfl ?_ ?_
  rotate_left
  · intro W hW
    go_simp
    try with_reducible rfl
  try simp only [Act.put, List.setIfInBounds_toArray, List.set_cons_zero, List.set_cons_succ]
  refine Reg.take 9 (v := ?_) rfl (by kernel_rfl) (fun _ _ _ h => h) rfl ?_ ?_
  rotate_left
  · intro W hW
    go_simp
    try with_reducible rfl
  try simp only [Act.put, List.setIfInBounds_toArray, List.set_cons_zero, List.set_cons_succ]
  refine Reg.take 10 (v := ?_) rfl (by kernel_rfl) (fun _ _ _ h => h) rfl ?_ ?_
  rotate_left
  · intro W hW
    have q := (HCL.out W (B1.out.trans (hW.all.mono B1.out.size))).2
    go_simp
    try with_reducible rfl
  try simp only [Act.put, List.setIfInBounds_toArray, List.set_cons_zero, List.set_cons_succ]
  refine Reg.do_ 12 rfl (by kernel_rfl) rfl (fun K hK => ?_)
  go_simp
  refine (digestR_any p x n _ HN.out).mono ?_
  rintro e w2 ⟨rfl, b2⟩
  have B2 : Hid (Below W0.heap.size W0 w2) := B1.out.trans (b2.mono B1.out.size)
  refine hK.out _ _ b2 ?_
  clear hK K b2
  generalize digI p x n = dg at *
  try simp only [Act.put, List.setIfInBounds_toArray, List.set_cons_zero, List.set_cons_succ]
  refine Reg.take 13 (v := ?_) rfl (by kernel_rfl) (fun _ _ _ h => h) rfl ?_ ?_
  rotate_left
  · intro W hW
    go_simp
    try with_reducible rfl
  try simp only [Act.put, List.setIfInBounds_toArray, List.set_cons_zero, List.set_cons_succ]
  refine Reg.take 14 (v := ?_) rfl (by kernel_rfl) (fun _ _ _ h => h) rfl ?_ ?_
  rotate_left
  · intro W hW
    go_simp
    try with_reducible rfl
  try simp only [Act.put, List.setIfInBounds_toArray, List.set_cons_zero, List.set_cons_succ]
  refine Reg.done (by kernel_rfl) ?_
  have HR2 : Hid (Rf w2 g vc vr s ts) := HR.out.below B2.out
  have KB2 : Hid (Blk w2 w.heap.size 24 #[.int .i64 p, .int .u64 x, .int .u64 n]) := KB.out.below B2.out KB.out.lt
  have BE2 : Hid (Below w.heap.size w w2) := BE.out.trans (B2.out.mono BE.out.size)
  clear HCL B1 B2 HVC hji tj tj2 hne
  go_wp2_with fail
  obtain ⟨A1, c1, hv1, hs1⟩ := own_form HR2.out.orr
  have HVR := Lib.hid hv1
  have HAP : Hid ((Value.slice A1 s.rs.length c1).ownBlock ≠ some g) := by rw [← HVR.out]; exact own_apart HR2.out.orr HR2.out.b (by decide)
  have HQA : Hid ((w2.alloc (.cells #[.int .i64 p, .int .u64 x, .int .u64 n] 24)).cell? ⟨g, 4, none⟩ = some (.slice A1 s.rs.length c1)) := by rw [← HVR.out]; exact (HR2.out.b.alloc _).cell 4
  have qa : w2.drew.cell? ⟨g, 4, none⟩ = some (.slice A1 s.rs.length c1) := by rw [← HVR.out]; exact HR2.out.b.cell 4
  have qb := HQA.out
  have la : (loadRow 24 (.pointer (some ⟨w.heap.size, 0, none⟩))).run Try.prog w2.drew = .ok (.agg #[.int .i64 p, .int .u64 x, .int .u64 n]) w2.drew := load_rv KB2.out rfl
  have HLT : Hid (ts.length = s.rs.length) := by show _ = _; rw [← HR2.out.ht, List.length_map]
  clear hv1 hs1
  go_region_law (first
      | (refine step_append_sl _ (by rfl) (.tmp 58) (.tmp 60) 62 (by rfl) 24 i0 (.agg #[.int .i64 0, .int .u64 0, .int .u64 0]) 3 24 Try.underlying62 hi0 hz0 hz1 hz2 rfl (by decide) (.slice A1 s.rs.length c1) s.rs.length (cells3 ts) (by rfl) (by rw [← HVR.out]; exact own_frm HR2.out.orr (((Frm.refl (fun _ => False) w2).drew).alloc _) (fun _ _ g => g)) _ 1 1 [.int .i64 p, .int .u64 x, .int .u64 n] (by rfl) (new_tv _ _ _ _ _ rfl) (one3 _ _ _) (by unfold maxLen; omega) (by omega) ?_; intro v2 w3 hown2 hg2 hat2; obtain ⟨A2, c2, rfl, s2⟩ := own_form hown2; have kk2 := Lib.hid (Blk.grown ((HR2.out.b.alloc _).drew) hg2 HAP.out); have k2 : w3.cell? ⟨g, 4, none⟩ = some (.slice A1 s.rs.length c1) := (kk2.out.cell 4).trans (congrArg some HVR.out); have f2 : w3.frozen? ⟨g, 4, none⟩ = false := kk2.out.frozen 4))
  all_goals
    have EE : Hid (_ ∧ _ ∧ _) := rf_reveal HR2.out (((Frm.refl (fun _ => False) w2).alloc _).drew) hown2 (by rw [HVR.out]; exact hg2) (by rw [HVR.out]; exact hat2)
    clear hown2 hg2 hat2 k2 f2 kk2 s2
    go_wp2_with fail
    go_ret
    exact rf_end BE2.out EE.out

theorem revealR_any (g : Nat) (vc vr : Value) (s : St) (ts : List (Int × Int × Int)) (p x n : Int) (w : World) (h : Rf w g vc vr s ts) (hlen : s.cs.length ≤ 100) (hlr : s.rs.length ≤ 100) (hn : U64 n) : Calls Try.prog 19 #[.pointer (some ⟨g, 0, none⟩), .agg #[.int .i64 p, .int .u64 x, .int .u64 n]] w (RfPost g vc vr (rev s p x n) (.int .i64 (revE s p x n)) w) := by
  unfold rev revE
  by_cases hi : inP s p = true
  · have hi2 := (inP_iff s p).1 hi
    by_cases hl : s.lock = true
    · cases hf : findK s.cs p with
      | none => simpa [hi, hl, hf] using revealR_5 g vc vr s ts p x n w h hi2 hl hlen hf
      | some c =>
        cases hr : findK s.rs p with
        | some c2 => simpa [hi, hl, hf, hr] using revealR_6 g vc vr s ts p x n w h c c2 hi2 hl hlen hlr hf hr
        | none =>
          by_cases hd : digI p x n = c
          · simpa [hi, hl, hf, hr, hd] using revealR_0 g vc vr s ts p x n w h c hi2 hl hlen hlr hf hr hn hd
          · simpa [hi, hl, hf, hr, hd] using revealR_15 g vc vr s ts p x n w h c hi2 hl hlen hlr hf hr hn hd
    · have hl' : s.lock = false := by simpa using hl
      simpa [hi, hl'] using revealR_8 g vc vr s ts p x n w h hi2 hl'
  · have hi' : inP s p = false := by simpa using hi
    have hi2 : ¬ (1 ≤ p ∧ p ≤ s.n) := fun e => hi ((inP_iff s p).2 e)
    by_cases h1 : p < 1
    · simpa [hi'] using revealR_2a g vc vr s ts p x n w h h1
    · simpa [hi'] using revealR_2b g vc vr s ts p x n w h h1 (by omega)
end Go.Proofs.Ytdgekhbmcmojdaa.Cm
