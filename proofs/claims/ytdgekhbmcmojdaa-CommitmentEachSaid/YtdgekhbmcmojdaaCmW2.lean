/-
  The walks of package commitment, second part: Lock, Locked, New, Reveal. Conditions: the object lies in memory; numbers of their kinds.
-/
import Derived.Test.YtdgekhbmcmojdaaCmW
import Derived.Test.YtdgekhbmcmojdaaMem2
namespace Go.Proofs.Ytdgekhbmcmojdaa.Cm
open Go.RowKit Go.Proofs.Ytdgekhbmcmojdaa.Mem Go.Proofs.Ytdgekhbmcmojdaa.Dg Go.Proofs.Ytdgekhbmcmojdaa.Mp

theorem exec_len (ρ : Operand → Value) (dst : Option Tmp) (x : Operand) (ty : TypeId) (pos : String) (after : Array Edge) (guard : Option (Nat × Bool)) {W : World} {b : Nat} {l : List (Int × Int)} (hx : ρ x = .map (some b)) (h : MapL Try.prog 3 22 W b l) :
    (execOp ρ { dst, op := .call { callee := .builtin .len, args := #[x], argTypes := #[58] }, type := ty, pos, after, guard }).run Try.prog W = .ok (.value (.int .i64 (l.length : Int))) W := by
  simp [execOp, resolve, invoke, builtin, hx, len_run h ty, Result.andThen]
theorem size_rv : (Try.prog.info? 24).map (·.size) = some 3 := by kernel_rfl
theorem exec_load_rv (ρ : Operand → Value) (dst : Option Tmp) (x : Operand) (ty : TypeId) (pos : String) (after : Array Edge) (guard : Option (Nat × Bool)) :
    execOp ρ { dst, op := .load 24 x, type := ty, pos, after, guard } = (do pure (.value (← loadRow 24 (ρ x)))) := rfl
theorem load_rv {W : World} {g : Nat} {cs : Array Value} (h : Blk W g 24 cs) (hs : cs.size = 3) : (loadRow 24 (.pointer (some ⟨g, 0, none⟩))).run Try.prog W = .ok (.agg cs) W :=
  run_loadRow h Try.underlying24 (size_rv.trans (congrArg some hs.symm))
attribute [local go_sem ↓] exec_load_rv

set_option maxRecDepth 100000 in
set_option maxHeartbeats 2000000 in
theorem lock_8 (g d v : Nat) (s : St) (w : World) (h : Cm w g d v s) (hl : s.lock = true) :
    Calls Try.prog 16 #[.pointer (some ⟨g, 0, none⟩)] w (CmPost g d v s (.int .i64 8) w) := by
  have HC_0 : Hid (Cm w g d v s) := h
  have FE_0 : Hid (Frm (own3 g d v) w w) := Frm.refl _ _
  clear h
  have q2 : w.cell? ⟨g, 2, none⟩ = some (.int .i64 1) := by have := HC_0.out.b.cell 2; unfold gcells lk at this; rw [hl] at this; exact this
  clear hl
  go_enter Try.func16, Try.ntmps16
  go_wp2_with fail
  go_ret
  exact ⟨rfl, HC_0.out, FE_0.out⟩

set_option maxRecDepth 100000 in
set_option maxHeartbeats 2000000 in
theorem lock_23 (g d v : Nat) (s : St) (w : World) (h : Cm w g d v s) (hl : s.lock = false) (hq : (s.cs.length : Int) < s.q) :
    Calls Try.prog 16 #[.pointer (some ⟨g, 0, none⟩)] w (CmPost g d v s (.int .i64 23) w) := by
  have HC_0 : Hid (Cm w g d v s) := h
  have FE_0 : Hid (Frm (own3 g d v) w w) := Frm.refl _ _
  clear h
  have q2 : w.cell? ⟨g, 2, none⟩ = some (.int .i64 0) := by have := HC_0.out.b.cell 2; unfold gcells lk at this; rw [hl] at this; exact this
  have HL := Lib.hid hl
  clear hl
  go_enter Try.func16, Try.ntmps16
  go_wp2_with fail
  have F : Below w.heap.size w w.drew := (Below.refl _ _).drew
  have HC_1 := Lib.hid (HC_0.out.below F)
  have FE_1 := Lib.hid (FE_0.out.trans (Frm.of_below (F := own3 g d v) F (fun i hi hg => by omega)) (fun _ _ h => h))
  clear HC_0 FE_0
  clear F
  refine Reg.start (by kernel_rfl) ?_
  refine Reg.take 0 (v := ?_) rfl (by kernel_rfl) (fun _ _ _ h => h) rfl ?_ ?_
  rotate_left
  · intro W hW
    go_simp
    try with_reducible rfl
  try simp only [Act.put, List.setIfInBounds_toArray, List.set_cons_zero, List.set_cons_succ]
  refine Reg.take 1 (v := ?_) rfl (by kernel_rfl) (fun _ _ _ h => h) rfl ?_ ?_
  rotate_left
  · intro W hW
    go_simp
    try with_reducible rfl
  try simp only [Act.put, List.setIfInBounds_toArray, List.set_cons_zero, List.set_cons_succ]
  refine Reg.take 2 (v := ?_) rfl (by kernel_rfl) (fun _ _ _ h => h) rfl ?_ ?_
  rotate_left
  · intro W hW
    go_simp
    try with_reducible rfl
  try simp only [Act.put, List.setIfInBounds_toArray, List.set_cons_zero, List.set_cons_succ]
  refine Reg.take 3 (v := ?_) rfl (by kernel_rfl) (fun _ _ _ h => h) rfl ?_ ?_
  rotate_left
  · intro W hW
    have q : W.cell? ⟨g, 3, none⟩ = some (.map (some d)) := (HC_1.out.b.below hW.all HC_1.out.b.lt).cell 3
    go_simp
    try with_reducible rfl
  try simp only [Act.put, List.setIfInBounds_toArray, List.set_cons_zero, List.set_cons_succ]
  refine Reg.take 4 (v := ?_) rfl (by kernel_rfl) (fun _ _ _ h => h) rfl ?_ ?_
  rotate_left
  · intro W hW
    refine exec_len _ _ _ _ _ _ _ ?_ (HC_1.out.m.below hW.all)
    rfl
  try simp only [Act.put, List.setIfInBounds_toArray, List.set_cons_zero, List.set_cons_succ]
  refine Reg.take 5 (v := ?_) rfl (by kernel_rfl) (fun _ _ _ h => h) rfl ?_ ?_
  rotate_left
  · intro W hW
    go_simp
    try with_reducible rfl
  try simp only [Act.put, List.setIfInBounds_toArray, List.set_cons_zero, List.set_cons_succ]
  refine Reg.take 6 (v := ?_) rfl (by kernel_rfl) (fun _ _ _ h => h) rfl ?_ ?_
  rotate_left
  · intro W hW
    go_simp
    try with_reducible rfl
  try simp only [Act.put, List.setIfInBounds_toArray, List.set_cons_zero, List.set_cons_succ]
  refine Reg.take 7 (v := ?_) rfl (by kernel_rfl) (fun _ _ _ h => h) rfl ?_ ?_
  rotate_left
  · intro W hW
    go_simp
    try with_reducible rfl
  try simp only [Act.put, List.setIfInBounds_toArray, List.set_cons_zero, List.set_cons_succ]
  refine Reg.take 8 (v := ?_) rfl (by kernel_rfl) (fun _ _ _ h => h) rfl ?_ ?_
  rotate_left
  · intro W hW
    have q : W.cell? ⟨g, 1, none⟩ = some (.int .i64 s.q) := (HC_1.out.b.below hW.all HC_1.out.b.lt).cell 1
    go_simp
    try with_reducible rfl
  try simp only [Act.put, List.setIfInBounds_toArray, List.set_cons_zero, List.set_cons_succ]
  refine Reg.take 9 (v := ?_) rfl (by kernel_rfl) (fun _ _ _ h => h) rfl ?_ ?_
  rotate_left
  · intro W hW
    go_simp
    try with_reducible rfl
  try simp only [Act.put, List.setIfInBounds_toArray, List.set_cons_zero, List.set_cons_succ]
  refine Reg.done (by kernel_rfl) ?_
  go_wp2_with fail
  go_ret
  exact ⟨rfl, HC_1.out, FE_1.out⟩

set_option maxRecDepth 100000 in
set_option maxHeartbeats 2000000 in
theorem lock_0 (g d v : Nat) (s : St) (w : World) (h : Cm w g d v s) (hl : s.lock = false) (hq : ¬ (s.cs.length : Int) < s.q) :
    Calls Try.prog 16 #[.pointer (some ⟨g, 0, none⟩)] w (CmPost g d v ⟨s.n, s.q, true, s.cs, s.rs⟩ (.int .i64 0) w) := by
  have hq2 : s.q ≤ (s.cs.length : Int) := by omega
  clear hq
  have HC_0 : Hid (Cm w g d v s) := h
  have FE_0 : Hid (Frm (own3 g d v) w w) := Frm.refl _ _
  clear h
  have q2 : w.cell? ⟨g, 2, none⟩ = some (.int .i64 0) := by have := HC_0.out.b.cell 2; unfold gcells lk at this; rw [hl] at this; exact this
  have HL := Lib.hid hl
  clear hl
  go_enter Try.func16, Try.ntmps16
  go_wp2_with fail
  have F : Below w.heap.size w w.drew := (Below.refl _ _).drew
  have HC_1 := Lib.hid (HC_0.out.below F)
  have FE_1 := Lib.hid (FE_0.out.trans (Frm.of_below (F := own3 g d v) F (fun i hi hg => by omega)) (fun _ _ h => h))
  clear HC_0 FE_0
  clear F
  refine Reg.start (by kernel_rfl) ?_
  refine Reg.take 0 (v := ?_) rfl (by kernel_rfl) (fun _ _ _ h => h) rfl ?_ ?_
  rotate_left
  · intro W hW
    go_simp
    try with_reducible rfl
  try simp only [Act.put, List.setIfInBounds_toArray, List.set_cons_zero, List.set_cons_succ]
  refine Reg.take 1 (v := ?_) rfl (by kernel_rfl) (fun _ _ _ h => h) rfl ?_ ?_
  rotate_left
  · intro W hW
    go_simp
    try with_reducible rfl
  try simp only [Act.put, List.setIfInBounds_toArray, List.set_cons_zero, List.set_cons_succ]
  refine Reg.take 2 (v := ?_) rfl (by kernel_rfl) (fun _ _ _ h => h) rfl ?_ ?_
  rotate_left
  · intro W hW
    go_simp
    try with_reducible rfl
  try simp only [Act.put, List.setIfInBounds_toArray, List.set_cons_zero, List.set_cons_succ]
  refine Reg.take 3 (v := ?_) rfl (by kernel_rfl) (fun _ _ _ h => h) rfl ?_ ?_
  rotate_left
  · intro W hW
    have q : W.cell? ⟨g, 3, none⟩ = some (.map (some d)) := (HC_1.out.b.below hW.all HC_1.out.b.lt).cell 3
    go_simp
    try with_reducible rfl
  try simp only [Act.put, List.setIfInBounds_toArray, List.set_cons_zero, List.set_cons_succ]
  refine Reg.take 4 (v := ?_) rfl (by kernel_rfl) (fun _ _ _ h => h) rfl ?_ ?_
  rotate_left
  · intro W hW
    refine exec_len _ _ _ _ _ _ _ ?_ (HC_1.out.m.below hW.all)
    rfl
  try simp only [Act.put, List.setIfInBounds_toArray, List.set_cons_zero, List.set_cons_succ]
  refine Reg.take 5 (v := ?_) rfl (by kernel_rfl) (fun _ _ _ h => h) rfl ?_ ?_
  rotate_left
  · intro W hW
    go_simp
    try with_reducible rfl
  try simp only [Act.put, List.setIfInBounds_toArray, List.set_cons_zero, List.set_cons_succ]
  refine Reg.take 6 (v := ?_) rfl (by kernel_rfl) (fun _ _ _ h => h) rfl ?_ ?_
  rotate_left
  · intro W hW
    go_simp
    try with_reducible rfl
  try simp only [Act.put, List.setIfInBounds_toArray, List.set_cons_zero, List.set_cons_succ]
  refine Reg.take 7 (v := ?_) rfl (by kernel_rfl) (fun _ _ _ h => h) rfl ?_ ?_
  rotate_left
  · intro W hW
    go_simp
    try with_reducible rfl
  try simp only [Act.put, List.setIfInBounds_toArray, List.set_cons_zero, List.set_cons_succ]
  refine Reg.take 8 (v := ?_) rfl (by kernel_rfl) (fun _ _ _ h => h) rfl ?_ ?_
  rotate_left
  · intro W hW
    have q : W.cell? ⟨g, 1, none⟩ = some (.int .i64 s.q) := (HC_1.out.b.below hW.all HC_1.out.b.lt).cell 1
    go_simp
    try with_reducible rfl
  try simp only [Act.put, List.setIfInBounds_toArray, List.set_cons_zero, List.set_cons_succ]
  refine Reg.take 9 (v := ?_) rfl (by kernel_rfl) (fun _ _ _ h => h) rfl ?_ ?_
  rotate_left
  · intro W hW
    go_simp
    try with_reducible rfl
  try simp only [Act.put, List.setIfInBounds_toArray, List.set_cons_zero, List.set_cons_succ]
  refine Reg.done (by kernel_rfl) ?_
  have q3 : w.drew.cell? ⟨g, 2, none⟩ = some (.int .i64 (lk s)) := HC_1.out.b.cell 2
  have z3 : w.drew.frozen? ⟨g, 2, none⟩ = false := HC_1.out.b.frozen 2
  have HE : Hid (Cm (w.drew.setCell ⟨g, 2, none⟩ (.int .i64 1)) g d v ⟨s.n, s.q, true, s.cs, s.rs⟩) := ⟨HC_1.out.b.put 2 _, HC_1.out.m.far (p := ⟨g, 2, none⟩) HC_1.out.gd _, HC_1.out.r.far (p := ⟨g, 2, none⟩) HC_1.out.gv _, HC_1.out.ne⟩
  have FE2 : Hid (Frm (own3 g d v) w (w.drew.setCell ⟨g, 2, none⟩ (.int .i64 1))) := FE_1.out.setCell (p := ⟨g, 2, none⟩) (fun _ => .inl rfl) _
  go_wp2_with fail
  go_ret
  exact ⟨rfl, HE.out, FE2.out⟩

theorem lock_any (g d v : Nat) (s : St) (w : World) (h : Cm w g d v s) : Calls Try.prog 16 #[.pointer (some ⟨g, 0, none⟩)] w (CmPost g d v (lock s) (.int .i64 (lockE s)) w) := by
  unfold lock lockE
  by_cases hl : s.lock = true
  · simpa [hl] using lock_8 g d v s w h hl
  · have hl' : s.lock = false := by simpa using hl
    by_cases hq : (s.cs.length : Int) < s.q
    · simpa [hl', hq] using lock_23 g d v s w h hl' hq
    · simpa [hl', hq] using lock_0 g d v s w h hl' hq

set_option maxRecDepth 100000 in
set_option maxHeartbeats 2000000 in
theorem locked_true (g d v : Nat) (s : St) (w : World) (h : Cm w g d v s) (hl : s.lock = true) :
    Calls Try.prog 25 #[.pointer (some ⟨g, 0, none⟩)] w fun e w' => e = .returned (.bool true) ∧ w = w' := by
  have q2 : w.cell? ⟨g, 2, none⟩ = some (.int .i64 1) := by have := h.b.cell 2; unfold gcells lk at this; rw [hl] at this; exact this
  clear hl h
  go_enter Try.func25, Try.ntmps25
  go_wp2_with fail
  go_ret
  exact ⟨rfl, rfl⟩

set_option maxRecDepth 100000 in
set_option maxHeartbeats 2000000 in
theorem locked_false (g d v : Nat) (s : St) (w : World) (h : Cm w g d v s) (hl : s.lock = false) :
    Calls Try.prog 25 #[.pointer (some ⟨g, 0, none⟩)] w fun e w' => e = .returned (.bool false) ∧ w = w' := by
  have q2 : w.cell? ⟨g, 2, none⟩ = some (.int .i64 0) := by have := h.b.cell 2; unfold gcells lk at this; rw [hl] at this; exact this
  clear hl h
  go_enter Try.func25, Try.ntmps25
  go_wp2_with fail
  go_ret
  exact ⟨rfl, rfl⟩

theorem locked_any (g d v : Nat) (s : St) (w : World) (h : Cm w g d v s) : Calls Try.prog 25 #[.pointer (some ⟨g, 0, none⟩)] w fun e w' => e = .returned (.bool s.lock) ∧ w = w' := by
  cases hl : s.lock with
  | true => exact locked_true g d v s w h hl
  | false => exact locked_false g d v s w h hl

def newOk (n q : Int) : Bool := decide (1 ≤ n) && decide (n ≤ 8) && decide (1 ≤ q) && decide (q ≤ n)
theorem newOk_iff (n q : Int) : newOk n q = true ↔ 1 ≤ n ∧ n ≤ 8 ∧ 1 ≤ q ∧ q ≤ n := by unfold newOk; simp [and_assoc]
/-- a new object. -/
def NewCm (n q : Int) (w : World) (e : Ending) (w' : World) : Prop := ∃ g d v, e = .returned (.tuple #[.pointer (some ⟨g, 0, none⟩), .int .i64 0]) ∧ Cm w' g d v ⟨n, q, false, [], []⟩ ∧ (∀ k, own3 g d v k → w.heap.size ≤ k) ∧ Below w.heap.size w w'
set_option maxRecDepth 100000 in
set_option maxHeartbeats 2000000 in
theorem new_yes (n q : Int) (w : World) (h1 : 1 ≤ n) (h2 : n ≤ 8) (h3 : 1 ≤ q) (h4 : q ≤ n) : Calls Try.prog 9 #[.int .i64 n, .int .i64 q] w (NewCm n q w) := by
  have hmm := @run_makeMap Try.prog
  go_enter Try.func9, Try.ntmps9
  go_wp2_with fail
  clear hmm
  go_ret2
  refine ⟨w.heap.size + 1 + 1, w.heap.size, w.heap.size + 1, rfl, ⟨?_, ?_, ?_, ?_⟩, ?_, ?_⟩
  · have := Blk.new ((w.alloc (.map #[] 0)).alloc (.map #[] 0)) 60 (gcells ⟨n, q, false, [], []⟩ w.heap.size (w.heap.size + 1))
    simp at this
    exact this
  · exact ((MapL.made w).below ((Below.refl _ _).alloc (Nat.le_refl _) _)).below ((Below.refl _ _).alloc (Nat.le_refl _) _)
  · have := (MapL.made (P := Try.prog) (K := 3) (E := 22) (w.alloc (.map #[] 0))).below (w' := ((w.alloc (.map #[] 0)).alloc (.map #[] 0)).alloc (.cells (gcells ⟨n, q, false, [], []⟩ w.heap.size (w.heap.size + 1)) 60)) ((Below.refl _ _).alloc (Nat.le_refl _) _)
    simp at this
    exact this
  · omega
  · intro k hk
    rcases hk with rfl | rfl | rfl <;> omega
  · exact (((Below.refl _ w).alloc (Nat.le_refl _) _).alloc (by simp) _).alloc (by simp; omega) _

set_option maxRecDepth 100000 in
set_option maxHeartbeats 2000000 in
theorem new_no (n q : Int) (w : World) (h : newOk n q = false) : Calls Try.prog 9 #[.int .i64 n, .int .i64 q] w fun e w' => e = .returned (.tuple #[.pointer none, .int .i64 2]) ∧ w = w' := by
  have hh : ¬ (1 ≤ n ∧ n ≤ 8 ∧ 1 ≤ q ∧ q ≤ n) := by rw [← newOk_iff, h]; simp
  clear h
  by_cases h1 : 1 ≤ n
  · by_cases h2 : n ≤ 8
    · by_cases h3 : 1 ≤ q
      · have h4 : n < q := by omega
        clear hh
        go_enter Try.func9, Try.ntmps9
        go_wp2_with fail
        go_ret2
        exact ⟨rfl, rfl⟩
      · have h3' : q < 1 := by omega
        clear hh h3
        go_enter Try.func9, Try.ntmps9
        go_wp2_with fail
        go_ret2
        exact ⟨rfl, rfl⟩
    · have h2' : 8 < n := by omega
      clear hh h2
      go_enter Try.func9, Try.ntmps9
      go_wp2_with fail
      go_ret2
      exact ⟨rfl, rfl⟩
  · have h1' : n < 1 := by omega
    clear hh h1
    go_enter Try.func9, Try.ntmps9
    go_wp2_with fail
    go_ret2
    exact ⟨rfl, rfl⟩

set_option maxRecDepth 100000 in
set_option maxHeartbeats 2000000 in
theorem reveal_2 (g d v : Nat) (s : St) (p x n : Int) (w : World) (h : Cm w g d v s) (hp : I64 p) (hi : inP s p = false) :
    Calls Try.prog 18 #[.pointer (some ⟨g, 0, none⟩), .agg #[.int .i64 p, .int .u64 x, .int .u64 n]] w (CmPost g d v s (.int .i64 2) w) := by
  obtain ⟨W0, hW0⟩ : ∃ W0, W0 = w.alloc (.cells #[.int .i64 p, .int .u64 x, .int .u64 n] 24) := ⟨_, rfl⟩
  have HC_0 : Hid (Cm W0 g d v s) := by rw [hW0]; exact h.below ((Below.refl _ w).alloc (Nat.le_refl _) _)
  have KB_0 : Hid (Blk W0 w.heap.size 24 #[.int .i64 p, .int .u64 x, .int .u64 n]) := by rw [hW0]; exact Blk.new _ _ _
  have FE_0 : Hid (Frm (own3 g d v) w W0) := by rw [hW0]; exact (Frm.refl _ w).alloc _
  have HNE : Hid (∀ k, own3 g d v k → k ≠ w.heap.size) := fun k hk e => by have := h.lt hk; omega
  have HW := Lib.hid hW0
  have HP := Lib.hid hp
  have q0 : W0.cell? ⟨g, 0, none⟩ = some (.int .i64 s.n) := HC_0.out.b.cell 0
  have HI := Lib.hid hi
  clear hW0 h hp hi
  go_enter Try.func18, Try.ntmps18
  go_wp2_with fail
  rw [← HW.out]
  clear HW
  refine (has_any g s p _ q0).mono ?_
  rintro e w' ⟨rfl, rfl⟩
  rw [HI.out]
  clear q0
  go_wp2_with fail
  go_ret
  exact ⟨rfl, HC_0.out, FE_0.out⟩

set_option maxRecDepth 100000 in
set_option maxHeartbeats 2000000 in
theorem reveal_8 (g d v : Nat) (s : St) (p x n : Int) (w : World) (h : Cm w g d v s) (hp : I64 p) (hi : inP s p = true) (hl : s.lock = false) :
    Calls Try.prog 18 #[.pointer (some ⟨g, 0, none⟩), .agg #[.int .i64 p, .int .u64 x, .int .u64 n]] w (CmPost g d v s (.int .i64 8) w) := by
  obtain ⟨W0, hW0⟩ : ∃ W0, W0 = w.alloc (.cells #[.int .i64 p, .int .u64 x, .int .u64 n] 24) := ⟨_, rfl⟩
  have HC_0 : Hid (Cm W0 g d v s) := by rw [hW0]; exact h.below ((Below.refl _ w).alloc (Nat.le_refl _) _)
  have KB_0 : Hid (Blk W0 w.heap.size 24 #[.int .i64 p, .int .u64 x, .int .u64 n]) := by rw [hW0]; exact Blk.new _ _ _
  have FE_0 : Hid (Frm (own3 g d v) w W0) := by rw [hW0]; exact (Frm.refl _ w).alloc _
  have HNE : Hid (∀ k, own3 g d v k → k ≠ w.heap.size) := fun k hk e => by have := h.lt hk; omega
  have HW := Lib.hid hW0
  have HP := Lib.hid hp
  have q0 : W0.cell? ⟨g, 0, none⟩ = some (.int .i64 s.n) := HC_0.out.b.cell 0
  have HI := Lib.hid hi
  clear hW0 h hp hi
  have q2 : W0.cell? ⟨g, 2, none⟩ = some (.int .i64 0) := by have := HC_0.out.b.cell 2; unfold gcells lk at this; rw [hl] at this; exact this
  have HL := Lib.hid hl
  clear hl
  go_enter Try.func18, Try.ntmps18
  go_wp2_with fail
  rw [← HW.out]
  clear HW
  refine (has_any g s p _ q0).mono ?_
  rintro e w' ⟨rfl, rfl⟩
  rw [HI.out]
  clear q0
  go_wp2_with fail
  go_ret
  exact ⟨rfl, HC_0.out, FE_0.out⟩

set_option maxRecDepth 100000 in
set_option maxHeartbeats 2000000 in
theorem reveal_5 (g d v : Nat) (s : St) (p x n : Int) (w : World) (h : Cm w g d v s) (hp : I64 p) (hi : inP s p = true) (hl : s.lock = true) (hf : findK s.cs p = none) :
    Calls Try.prog 18 #[.pointer (some ⟨g, 0, none⟩), .agg #[.int .i64 p, .int .u64 x, .int .u64 n]] w (CmPost g d v s (.int .i64 5) w) := by
  obtain ⟨W0, hW0⟩ : ∃ W0, W0 = w.alloc (.cells #[.int .i64 p, .int .u64 x, .int .u64 n] 24) := ⟨_, rfl⟩
  have HC_0 : Hid (Cm W0 g d v s) := by rw [hW0]; exact h.below ((Below.refl _ w).alloc (Nat.le_refl _) _)
  have KB_0 : Hid (Blk W0 w.heap.size 24 #[.int .i64 p, .int .u64 x, .int .u64 n]) := by rw [hW0]; exact Blk.new _ _ _
  have FE_0 : Hid (Frm (own3 g d v) w W0) := by rw [hW0]; exact (Frm.refl _ w).alloc _
  have HNE : Hid (∀ k, own3 g d v k → k ≠ w.heap.size) := fun k hk e => by have := h.lt hk; omega
  have HW := Lib.hid hW0
  have HP := Lib.hid hp
  have q0 : W0.cell? ⟨g, 0, none⟩ = some (.int .i64 s.n) := HC_0.out.b.cell 0
  have HI := Lib.hid hi
  clear hW0 h hp hi
  have q2 : W0.cell? ⟨g, 2, none⟩ = some (.int .i64 1) := by have := HC_0.out.b.cell 2; unfold gcells lk at this; rw [hl] at this; exact this
  have HL := Lib.hid hl
  clear hl
  have HF := Lib.hid hf
  clear hf
  go_enter Try.func18, Try.ntmps18
  go_wp2_with fail
  rw [← HW.out]
  clear HW
  refine (has_any g s p _ q0).mono ?_
  rintro e w' ⟨rfl, rfl⟩
  rw [HI.out]
  clear q0
  go_wp2_with fail
  clear q2
  have F : Below W0.heap.size W0 W0.drew := (Below.refl _ _).drew
  have HC_1 := Lib.hid (HC_0.out.below F)
  have KB_1 := Lib.hid (KB_0.out.below F KB_0.out.lt)
  have FE_1 := Lib.hid (FE_0.out.trans (Frm.of_below (F := own3 g d v) F (fun i hi hg => by omega)) (fun _ _ h => h))
  clear HC_0 KB_0 FE_0
  clear F
  refine Reg.start (by kernel_rfl) ?_
  refine Reg.take 0 (v := ?_) rfl (by kernel_rfl) (fun _ _ _ h => h) rfl ?_ ?_
  rotate_left
  · intro W hW
    go_simp
    try with_reducible rfl
  try simp only [Act.put, List.setIfInBounds_toArray, List.set_cons_zero, List.set_cons_succ]
  refine Reg.take 1 (v := ?_) rfl (by kernel_rfl) (fun _ _ _ h => h) rfl ?_ ?_
  rotate_left
  · intro W hW
    go_simp
    try with_reducible rfl
  try simp only [Act.put, List.setIfInBounds_toArray, List.set_cons_zero, List.set_cons_succ]
  refine Reg.take 2 (v := ?_) rfl (by kernel_rfl) (fun _ _ _ h => h) rfl ?_ ?_
  rotate_left
  · intro W hW
    go_simp
    try with_reducible rfl
  try simp only [Act.put, List.setIfInBounds_toArray, List.set_cons_zero, List.set_cons_succ]
  refine Reg.take 3 (v := ?_) rfl (by kernel_rfl) (fun _ _ _ h => h) rfl ?_ ?_
  rotate_left
  · intro W hW
    have q : W.cell? ⟨g, 3, none⟩ = some (.map (some d)) := (HC_1.out.b.below hW.all HC_1.out.b.lt).cell 3
    go_simp
    try with_reducible rfl
  try simp only [Act.put, List.setIfInBounds_toArray, List.set_cons_zero, List.set_cons_succ]
  refine Reg.take 4 (v := ?_) rfl (by kernel_rfl) (fun _ _ _ h => h) rfl ?_ ?_
  rotate_left
  · intro W hW
    go_simp
    try with_reducible rfl
  try simp only [Act.put, List.setIfInBounds_toArray, List.set_cons_zero, List.set_cons_succ]
  refine Reg.take 5 (v := ?_) rfl (by kernel_rfl) (fun _ _ _ h => h) rfl ?_ ?_
  rotate_left
  · intro W hW
    have q : W.cell? ⟨w.heap.size, 0, none⟩ = some (.int .i64 p) := (KB_1.out.below hW.all KB_1.out.lt).cell 0
    go_simp
    try with_reducible rfl
  try simp only [Act.put, List.setIfInBounds_toArray, List.set_cons_zero, List.set_cons_succ]
  refine Reg.take 6 (v := ?_) rfl (by kernel_rfl) (fun _ _ _ h => h) rfl ?_ ?_
  rotate_left
  · intro W hW
    have lkp := look_none (HC_1.out.m.below hW.all) HP.out.wf HF.out
    go_simp
    try with_reducible rfl
  try simp only [Act.put, List.setIfInBounds_toArray, List.set_cons_zero, List.set_cons_succ]
  refine Reg.take 7 (v := ?_) rfl (by kernel_rfl) (fun _ _ _ h => h) rfl ?_ ?_
  rotate_left
  · intro W hW
    go_simp
    try with_reducible rfl
  try simp only [Act.put, List.setIfInBounds_toArray, List.set_cons_zero, List.set_cons_succ]
  refine Reg.take 8 (v := ?_) rfl (by kernel_rfl) (fun _ _ _ h => h) rfl ?_ ?_
  rotate_left
  · intro W hW
    go_simp
    try with_reducible rfl
  try simp only [Act.put, List.setIfInBounds_toArray, List.set_cons_zero, List.set_cons_succ]
  refine Reg.take 9 (v := ?_) rfl (by kernel_rfl) (fun _ _ _ h => h) rfl ?_ ?_
  rotate_left
  · intro W hW
    go_simp
    try with_reducible rfl
  try simp only [Act.put, List.setIfInBounds_toArray, List.set_cons_zero, List.set_cons_succ]
  refine Reg.take 10 (v := ?_) rfl (by kernel_rfl) (fun _ _ _ h => h) rfl ?_ ?_
  rotate_left
  · intro W hW
    go_simp
    try with_reducible rfl
  try simp only [Act.put, List.setIfInBounds_toArray, List.set_cons_zero, List.set_cons_succ]
  refine Reg.take 11 (v := ?_) rfl (by kernel_rfl) (fun _ _ _ h => h) rfl ?_ ?_
  rotate_left
  · intro W hW
    go_simp
    try with_reducible rfl
  try simp only [Act.put, List.setIfInBounds_toArray, List.set_cons_zero, List.set_cons_succ]
  refine Reg.done (by kernel_rfl) ?_
  go_wp2_with fail
  go_ret
  exact ⟨rfl, HC_1.out, FE_1.out⟩

set_option maxRecDepth 100000 in
set_option maxHeartbeats 2000000 in
theorem reveal_6 (g d v : Nat) (s : St) (p x n : Int) (w : World) (h : Cm w g d v s) (hp : I64 p) (c c2 : Int) (hi : inP s p = true) (hl : s.lock = true) (hf : findK s.cs p = some c) (hr : findK s.rs p = some c2) :
    Calls Try.prog 18 #[.pointer (some ⟨g, 0, none⟩), .agg #[.int .i64 p, .int .u64 x, .int .u64 n]] w (CmPost g d v s (.int .i64 6) w) := by
  obtain ⟨W0, hW0⟩ : ∃ W0, W0 = w.alloc (.cells #[.int .i64 p, .int .u64 x, .int .u64 n] 24) := ⟨_, rfl⟩
  have HC_0 : Hid (Cm W0 g d v s) := by rw [hW0]; exact h.below ((Below.refl _ w).alloc (Nat.le_refl _) _)
  have KB_0 : Hid (Blk W0 w.heap.size 24 #[.int .i64 p, .int .u64 x, .int .u64 n]) := by rw [hW0]; exact Blk.new _ _ _
  have FE_0 : Hid (Frm (own3 g d v) w W0) := by rw [hW0]; exact (Frm.refl _ w).alloc _
  have HNE : Hid (∀ k, own3 g d v k → k ≠ w.heap.size) := fun k hk e => by have := h.lt hk; omega
  have HW := Lib.hid hW0
  have HP := Lib.hid hp
  have q0 : W0.cell? ⟨g, 0, none⟩ = some (.int .i64 s.n) := HC_0.out.b.cell 0
  have HI := Lib.hid hi
  clear hW0 h hp hi
  have q2 : W0.cell? ⟨g, 2, none⟩ = some (.int .i64 1) := by have := HC_0.out.b.cell 2; unfold gcells lk at this; rw [hl] at this; exact this
  have HL := Lib.hid hl
  clear hl
  have HF := Lib.hid hf
  clear hf
  have HR := Lib.hid hr
  clear hr
  go_enter Try.func18, Try.ntmps18
  go_wp2_with fail
  rw [← HW.out]
  clear HW
  refine (has_any g s p _ q0).mono ?_
  rintro e w' ⟨rfl, rfl⟩
  rw [HI.out]
  clear q0
  go_wp2_with fail
  clear q2
  have F : Below W0.heap.size W0 W0.drew := (Below.refl _ _).drew
  have HC_1 := Lib.hid (HC_0.out.below F)
  have KB_1 := Lib.hid (KB_0.out.below F KB_0.out.lt)
  have FE_1 := Lib.hid (FE_0.out.trans (Frm.of_below (F := own3 g d v) F (fun i hi hg => by omega)) (fun _ _ h => h))
  clear HC_0 KB_0 FE_0
  clear F
  refine Reg.start (by kernel_rfl) ?_
  refine Reg.take 0 (v := ?_) rfl (by kernel_rfl) (fun _ _ _ h => h) rfl ?_ ?_
  rotate_left
  · intro W hW
    go_simp
    try with_reducible rfl
  try simp only [Act.put, List.setIfInBounds_toArray, List.set_cons_zero, List.set_cons_succ]
  refine Reg.take 1 (v := ?_) rfl (by kernel_rfl) (fun _ _ _ h => h) rfl ?_ ?_
  rotate_left
  · intro W hW
    go_simp
    try with_reducible rfl
  try simp only [Act.put, List.setIfInBounds_toArray, List.set_cons_zero, List.set_cons_succ]
  refine Reg.take 2 (v := ?_) rfl (by kernel_rfl) (fun _ _ _ h => h) rfl ?_ ?_
  rotate_left
  · intro W hW
    go_simp
    try with_reducible rfl
  try simp only [Act.put, List.setIfInBounds_toArray, List.set_cons_zero, List.set_cons_succ]
  refine Reg.take 3 (v := ?_) rfl (by kernel_rfl) (fun _ _ _ h => h) rfl ?_ ?_
  rotate_left
  · intro W hW
    have q : W.cell? ⟨g, 3, none⟩ = some (.map (some d)) := (HC_1.out.b.below hW.all HC_1.out.b.lt).cell 3
    go_simp
    try with_reducible rfl
  try simp only [Act.put, List.setIfInBounds_toArray, List.set_cons_zero, List.set_cons_succ]
  refine Reg.take 4 (v := ?_) rfl (by kernel_rfl) (fun _ _ _ h => h) rfl ?_ ?_
  rotate_left
  · intro W hW
    go_simp
    try with_reducible rfl
  try simp only [Act.put, List.setIfInBounds_toArray, List.set_cons_zero, List.set_cons_succ]
  refine Reg.take 5 (v := ?_) rfl (by kernel_rfl) (fun _ _ _ h => h) rfl ?_ ?_
  rotate_left
  · intro W hW
    have q : W.cell? ⟨w.heap.size, 0, none⟩ = some (.int .i64 p) := (KB_1.out.below hW.all KB_1.out.lt).cell 0
    go_simp
    try with_reducible rfl
  try simp only [Act.put, List.setIfInBounds_toArray, List.set_cons_zero, List.set_cons_succ]
  refine Reg.take 6 (v := ?_) rfl (by kernel_rfl) (fun _ _ _ h => h) rfl ?_ ?_
  rotate_left
  · intro W hW
    have lkp := look_some (HC_1.out.m.below hW.all) HP.out.wf HF.out
    go_simp
    try with_reducible rfl
  try simp only [Act.put, List.setIfInBounds_toArray, List.set_cons_zero, List.set_cons_succ]
  refine Reg.take 7 (v := ?_) rfl (by kernel_rfl) (fun _ _ _ h => h) rfl ?_ ?_
  rotate_left
  · intro W hW
    go_simp
    try with_reducible rfl
  try simp only [Act.put, List.setIfInBounds_toArray, List.set_cons_zero, List.set_cons_succ]
  refine Reg.take 8 (v := ?_) rfl (by kernel_rfl) (fun _ _ _ h => h) rfl ?_ ?_
  rotate_left
  · intro W hW
    go_simp
    try with_reducible rfl
  try simp only [Act.put, List.setIfInBounds_toArray, List.set_cons_zero, List.set_cons_succ]
  refine Reg.take 9 (v := ?_) rfl (by kernel_rfl) (fun _ _ _ h => h) rfl ?_ ?_
  rotate_left
  · intro W hW
    go_simp
    try with_reducible rfl
  try simp only [Act.put, List.setIfInBounds_toArray, List.set_cons_zero, List.set_cons_succ]
  refine Reg.take 10 (v := ?_) rfl (by kernel_rfl) (fun _ _ _ h => h) rfl ?_ ?_
  rotate_left
  · intro W hW
    go_simp
    try with_reducible rfl
  try simp only [Act.put, List.setIfInBounds_toArray, List.set_cons_zero, List.set_cons_succ]
  refine Reg.take 11 (v := ?_) rfl (by kernel_rfl) (fun _ _ _ h => h) rfl ?_ ?_
  rotate_left
  · intro W hW
    go_simp
    try with_reducible rfl
  try simp only [Act.put, List.setIfInBounds_toArray, List.set_cons_zero, List.set_cons_succ]
  refine Reg.done (by kernel_rfl) ?_
  go_wp2_with fail
  have F : Below W0.drew.heap.size W0.drew W0.drew.drew := (Below.refl _ _).drew
  have HC_2 := Lib.hid (HC_1.out.below F)
  have KB_2 := Lib.hid (KB_1.out.below F KB_1.out.lt)
  have FE_2 := Lib.hid (FE_1.out.trans (Frm.of_below (F := own3 g d v) F (fun i hi hg => by omega)) (fun _ _ h => h))
  clear HC_1 KB_1 FE_1
  clear F
  refine Reg.start (by kernel_rfl) ?_
  refine Reg.take 0 (v := ?_) rfl (by kernel_rfl) (fun _ _ _ h => h) rfl ?_ ?_
  rotate_left
  · intro W hW
    go_simp
    try with_reducible rfl
  try simp only [Act.put, List.setIfInBounds_toArray, List.set_cons_zero, List.set_cons_succ]
  refine Reg.take 1 (v := ?_) rfl (by kernel_rfl) (fun _ _ _ h => h) rfl ?_ ?_
  rotate_left
  · intro W hW
    go_simp
    try with_reducible rfl
  try simp only [Act.put, List.setIfInBounds_toArray, List.set_cons_zero, List.set_cons_succ]
  refine Reg.take 2 (v := ?_) rfl (by kernel_rfl) (fun _ _ _ h => h) rfl ?_ ?_
  rotate_left
  · intro W hW
    go_simp
    try with_reducible rfl
  try simp only [Act.put, List.setIfInBounds_toArray, List.set_cons_zero, List.set_cons_succ]
  refine Reg.take 3 (v := ?_) rfl (by kernel_rfl) (fun _ _ _ h => h) rfl ?_ ?_
  rotate_left
  · intro W hW
    have q : W.cell? ⟨g, 4, none⟩ = some (.map (some v)) := (HC_2.out.b.below hW.all HC_2.out.b.lt).cell 4
    go_simp
    try with_reducible rfl
  try simp only [Act.put, List.setIfInBounds_toArray, List.set_cons_zero, List.set_cons_succ]
  refine Reg.take 4 (v := ?_) rfl (by kernel_rfl) (fun _ _ _ h => h) rfl ?_ ?_
  rotate_left
  · intro W hW
    go_simp
    try with_reducible rfl
  try simp only [Act.put, List.setIfInBounds_toArray, List.set_cons_zero, List.set_cons_succ]
  refine Reg.take 5 (v := ?_) rfl (by kernel_rfl) (fun _ _ _ h => h) rfl ?_ ?_
  rotate_left
  · intro W hW
    have q : W.cell? ⟨w.heap.size, 0, none⟩ = some (.int .i64 p) := (KB_2.out.below hW.all KB_2.out.lt).cell 0
    go_simp
    try with_reducible rfl
  try simp only [Act.put, List.setIfInBounds_toArray, List.set_cons_zero, List.set_cons_succ]
  refine Reg.take 6 (v := ?_) rfl (by kernel_rfl) (fun _ _ _ h => h) rfl ?_ ?_
  rotate_left
  · intro W hW
    have lkp := look_some (HC_2.out.r.below hW.all) HP.out.wf HR.out
    go_simp
    try with_reducible rfl
  try simp only [Act.put, List.setIfInBounds_toArray, List.set_cons_zero, List.set_cons_succ]
  refine Reg.take 7 (v := ?_) rfl (by kernel_rfl) (fun _ _ _ h => h) rfl ?_ ?_
  rotate_left
  · intro W hW
    go_simp
    try with_reducible rfl
  try simp only [Act.put, List.setIfInBounds_toArray, List.set_cons_zero, List.set_cons_succ]
  refine Reg.take 8 (v := ?_) rfl (by kernel_rfl) (fun _ _ _ h => h) rfl ?_ ?_
  rotate_left
  · intro W hW
    go_simp
    try with_reducible rfl
  try simp only [Act.put, List.setIfInBounds_toArray, List.set_cons_zero, List.set_cons_succ]
  refine Reg.take 9 (v := ?_) rfl (by kernel_rfl) (fun _ _ _ h => h) rfl ?_ ?_
  rotate_left
  · intro W hW
    go_simp
    try with_reducible rfl
  try simp only [Act.put, List.setIfInBounds_toArray, List.set_cons_zero, List.set_cons_succ]
  refine Reg.take 10 (v := ?_) rfl (by kernel_rfl) (fun _ _ _ h => h) rfl ?_ ?_
  rotate_left
  · intro W hW
    go_simp
    try with_reducible rfl
  try simp only [Act.put, List.setIfInBounds_toArray, List.set_cons_zero, List.set_cons_succ]
  refine Reg.take 11 (v := ?_) rfl (by kernel_rfl) (fun _ _ _ h => h) rfl ?_ ?_
  rotate_left
  · intro W hW
    go_simp
    try with_reducible rfl
  try simp only [Act.put, List.setIfInBounds_toArray, List.set_cons_zero, List.set_cons_succ]
  refine Reg.done (by kernel_rfl) ?_
  go_wp2_with fail
  go_ret
  exact ⟨rfl, HC_2.out, FE_2.out⟩

set_option maxRecDepth 100000 in
set_option maxHeartbeats 2000000 in
theorem reveal_15 (g d v : Nat) (s : St) (p x n : Int) (w : World) (h : Cm w g d v s) (hp : I64 p) (c : Int) (hi : inP s p = true) (hl : s.lock = true) (hf : findK s.cs p = some c) (hr : findK s.rs p = none) (hn : U64 n) (hd : ¬ digI p x n = c) :
    Calls Try.prog 18 #[.pointer (some ⟨g, 0, none⟩), .agg #[.int .i64 p, .int .u64 x, .int .u64 n]] w (CmPost g d v s (.int .i64 15) w) := by
  have hne : (digI p x n != c) = true := by simp [hd]
  clear hd
  obtain ⟨W0, hW0⟩ : ∃ W0, W0 = w.alloc (.cells #[.int .i64 p, .int .u64 x, .int .u64 n] 24) := ⟨_, rfl⟩
  have HC_0 : Hid (Cm W0 g d v s) := by rw [hW0]; exact h.below ((Below.refl _ w).alloc (Nat.le_refl _) _)
  have KB_0 : Hid (Blk W0 w.heap.size 24 #[.int .i64 p, .int .u64 x, .int .u64 n]) := by rw [hW0]; exact Blk.new _ _ _
  have FE_0 : Hid (Frm (own3 g d v) w W0) := by rw [hW0]; exact (Frm.refl _ w).alloc _
  have HNE : Hid (∀ k, own3 g d v k → k ≠ w.heap.size) := fun k hk e => by have := h.lt hk; omega
  have HW := Lib.hid hW0
  have HP := Lib.hid hp
  have q0 : W0.cell? ⟨g, 0, none⟩ = some (.int .i64 s.n) := HC_0.out.b.cell 0
  have HI := Lib.hid hi
  clear hW0 h hp hi
  have q2 : W0.cell? ⟨g, 2, none⟩ = some (.int .i64 1) := by have := HC_0.out.b.cell 2; unfold gcells lk at this; rw [hl] at this; exact this
  have HL := Lib.hid hl
  clear hl
  have HF := Lib.hid hf
  clear hf
  have HR := Lib.hid hr
  clear hr
  have HN := Lib.hid hn
  clear hn
  go_enter Try.func18, Try.ntmps18
  go_wp2_with fail
  rw [← HW.out]
  clear HW
  refine (has_any g s p _ q0).mono ?_
  rintro e w' ⟨rfl, rfl⟩
  rw [HI.out]
  clear q0
  go_wp2_with fail
  clear q2
  have F : Below W0.heap.size W0 W0.drew := (Below.refl _ _).drew
  have HC_1 := Lib.hid (HC_0.out.below F)
  have KB_1 := Lib.hid (KB_0.out.below F KB_0.out.lt)
  have FE_1 := Lib.hid (FE_0.out.trans (Frm.of_below (F := own3 g d v) F (fun i hi hg => by omega)) (fun _ _ h => h))
  clear HC_0 KB_0 FE_0
  clear F
  refine Reg.start (by kernel_rfl) ?_
  refine Reg.take 0 (v := ?_) rfl (by kernel_rfl) (fun _ _ _ h => h) rfl ?_ ?_
  rotate_left
  · intro W hW
    go_simp
    try with_reducible rfl
  try simp only [Act.put, List.setIfInBounds_toArray, List.set_cons_zero, List.set_cons_succ]
  refine Reg.take 1 (v := ?_) rfl (by kernel_rfl) (fun _ _ _ h => h) rfl ?_ ?_
  rotate_left
  · intro W hW
    go_simp
    try with_reducible rfl
  try simp only [Act.put, List.setIfInBounds_toArray, List.set_cons_zero, List.set_cons_succ]
  refine Reg.take 2 (v := ?_) rfl (by kernel_rfl) (fun _ _ _ h => h) rfl ?_ ?_
  rotate_left
  · intro W hW
    go_simp
    try with_reducible rfl
  try simp only [Act.put, List.setIfInBounds_toArray, List.set_cons_zero, List.set_cons_succ]
  refine Reg.take 3 (v := ?_) rfl (by kernel_rfl) (fun _ _ _ h => h) rfl ?_ ?_
  rotate_left
  · intro W hW
    have q : W.cell? ⟨g, 3, none⟩ = some (.map (some d)) := (HC_1.out.b.below hW.all HC_1.out.b.lt).cell 3
    go_simp
    try with_reducible rfl
  try simp only [Act.put, List.setIfInBounds_toArray, List.set_cons_zero, List.set_cons_succ]
  refine Reg.take 4 (v := ?_) rfl (by kernel_rfl) (fun _ _ _ h => h) rfl ?_ ?_
  rotate_left
  · intro W hW
    go_simp
    try with_reducible rfl
  try simp only [Act.put, List.setIfInBounds_toArray, List.set_cons_zero, List.set_cons_succ]
  refine Reg.take 5 (v := ?_) rfl (by kernel_rfl) (fun _ _ _ h => h) rfl ?_ ?_
  rotate_left
  · intro W hW
    have q : W.cell? ⟨w.heap.size, 0, none⟩ = some (.int .i64 p) := (KB_1.out.below hW.all KB_1.out.lt).cell 0
    go_simp
    try with_reducible rfl
  try simp only [Act.put, List.setIfInBounds_toArray, List.set_cons_zero, List.set_cons_succ]
  refine Reg.take 6 (v := ?_) rfl (by kernel_rfl) (fun _ _ _ h => h) rfl ?_ ?_
  rotate_left
  · intro W hW
    have lkp := look_some (HC_1.out.m.below hW.all) HP.out.wf HF.out
    go_simp
    try with_reducible rfl
  try simp only [Act.put, List.setIfInBounds_toArray, List.set_cons_zero, List.set_cons_succ]
  refine Reg.take 7 (v := ?_) rfl (by kernel_rfl) (fun _ _ _ h => h) rfl ?_ ?_
  rotate_left
  · intro W hW
    go_simp
    try with_reducible rfl
  try simp only [Act.put, List.setIfInBounds_toArray, List.set_cons_zero, List.set_cons_succ]
  refine Reg.take 8 (v := ?_) rfl (by kernel_rfl) (fun _ _ _ h => h) rfl ?_ ?_
  rotate_left
  · intro W hW
    go_simp
    try with_reducible rfl
  try simp only [Act.put, List.setIfInBounds_toArray, List.set_cons_zero, List.set_cons_succ]
  refine Reg.take 9 (v := ?_) rfl (by kernel_rfl) (fun _ _ _ h => h) rfl ?_ ?_
  rotate_left
  · intro W hW
    go_simp
    try with_reducible rfl
  try simp only [Act.put, List.setIfInBounds_toArray, List.set_cons_zero, List.set_cons_succ]
  refine Reg.take 10 (v := ?_) rfl (by kernel_rfl) (fun _ _ _ h => h) rfl ?_ ?_
  rotate_left
  · intro W hW
    go_simp
    try with_reducible rfl
  try simp only [Act.put, List.setIfInBounds_toArray, List.set_cons_zero, List.set_cons_succ]
  refine Reg.take 11 (v := ?_) rfl (by kernel_rfl) (fun _ _ _ h => h) rfl ?_ ?_
  rotate_left
  · intro W hW
    go_simp
    try with_reducible rfl
  try simp only [Act.put, List.setIfInBounds_toArray, List.set_cons_zero, List.set_cons_succ]
  refine Reg.done (by kernel_rfl) ?_
  go_wp2_with fail
  have F : Below W0.drew.heap.size W0.drew W0.drew.drew := (Below.refl _ _).drew
  have HC_2 := Lib.hid (HC_1.out.below F)
  have KB_2 := Lib.hid (KB_1.out.below F KB_1.out.lt)
  have FE_2 := Lib.hid (FE_1.out.trans (Frm.of_below (F := own3 g d v) F (fun i hi hg => by omega)) (fun _ _ h => h))
  clear HC_1 KB_1 FE_1
  clear F
  refine Reg.start (by kernel_rfl) ?_
  refine Reg.take 0 (v := ?_) rfl (by kernel_rfl) (fun _ _ _ h => h) rfl ?_ ?_
  rotate_left
  · intro W hW
    go_simp
    try with_reducible rfl
  try simp only [Act.put, List.setIfInBounds_toArray, List.set_cons_zero, List.set_cons_succ]
  refine Reg.take 1 (v := ?_) rfl (by kernel_rfl) (fun _ _ _ h => h) rfl ?_ ?_
  rotate_left
  · intro W hW
    go_simp
    try with_reducible rfl
  try simp only [Act.put, List.setIfInBounds_toArray, List.set_cons_zero, List.set_cons_succ]
  refine Reg.take 2 (v := ?_) rfl (by kernel_rfl) (fun _ _ _ h => h) rfl ?_ ?_
  rotate_left
  · intro W hW
    go_simp
    try with_reducible rfl
  try simp only [Act.put, List.setIfInBounds_toArray, List.set_cons_zero, List.set_cons_succ]
  refine Reg.take 3 (v := ?_) rfl (by kernel_rfl) (fun _ _ _ h => h) rfl ?_ ?_
  rotate_left
  · intro W hW
    have q : W.cell? ⟨g, 4, none⟩ = some (.map (some v)) := (HC_2.out.b.below hW.all HC_2.out.b.lt).cell 4
    go_simp
    try with_reducible rfl
  try simp only [Act.put, List.setIfInBounds_toArray, List.set_cons_zero, List.set_cons_succ]
  refine Reg.take 4 (v := ?_) rfl (by kernel_rfl) (fun _ _ _ h => h) rfl ?_ ?_
  rotate_left
  · intro W hW
    go_simp
    try with_reducible rfl
  try simp only [Act.put, List.setIfInBounds_toArray, List.set_cons_zero, List.set_cons_succ]
  refine Reg.take 5 (v := ?_) rfl (by kernel_rfl) (fun _ _ _ h => h) rfl ?_ ?_
  rotate_left
  · intro W hW
    have q : W.cell? ⟨w.heap.size, 0, none⟩ = some (.int .i64 p) := (KB_2.out.below hW.all KB_2.out.lt).cell 0
    go_simp
    try with_reducible rfl
  try simp only [Act.put, List.setIfInBounds_toArray, List.set_cons_zero, List.set_cons_succ]
  refine Reg.take 6 (v := ?_) rfl (by kernel_rfl) (fun _ _ _ h => h) rfl ?_ ?_
  rotate_left
  · intro W hW
    have lkp := look_none (HC_2.out.r.below hW.all) HP.out.wf HR.out
    go_simp
    try with_reducible rfl
  try simp only [Act.put, List.setIfInBounds_toArray, List.set_cons_zero, List.set_cons_succ]
  refine Reg.take 7 (v := ?_) rfl (by kernel_rfl) (fun _ _ _ h => h) rfl ?_ ?_
  rotate_left
  · intro W hW
    go_simp
    try with_reducible rfl
  try simp only [Act.put, List.setIfInBounds_toArray, List.set_cons_zero, List.set_cons_succ]
  refine Reg.take 8 (v := ?_) rfl (by kernel_rfl) (fun _ _ _ h => h) rfl ?_ ?_
  rotate_left
  · intro W hW
    go_simp
    try with_reducible rfl
  try simp only [Act.put, List.setIfInBounds_toArray, List.set_cons_zero, List.set_cons_succ]
  refine Reg.take 9 (v := ?_) rfl (by kernel_rfl) (fun _ _ _ h => h) rfl ?_ ?_
  rotate_left
  · intro W hW
    go_simp
    try with_reducible rfl
  try simp only [Act.put, List.setIfInBounds_toArray, List.set_cons_zero, List.set_cons_succ]
  refine Reg.take 10 (v := ?_) rfl (by kernel_rfl) (fun _ _ _ h => h) rfl ?_ ?_
  rotate_left
  · intro W hW
    go_simp
    try with_reducible rfl
  try simp only [Act.put, List.setIfInBounds_toArray, List.set_cons_zero, List.set_cons_succ]
  refine Reg.take 11 (v := ?_) rfl (by kernel_rfl) (fun _ _ _ h => h) rfl ?_ ?_
  rotate_left
  · intro W hW
    go_simp
    try with_reducible rfl
  try simp only [Act.put, List.setIfInBounds_toArray, List.set_cons_zero, List.set_cons_succ]
  refine Reg.done (by kernel_rfl) ?_
  have l0 : (loadRow 24 (.pointer (some ⟨w.heap.size, 0, none⟩))).run Try.prog W0.drew.drew = .ok (.agg #[.int .i64 p, .int .u64 x, .int .u64 n]) W0.drew.drew := load_rv KB_2.out rfl
  go_wp2_with fail
  clear l0
  refine (digest_any p x n _ HN.out).mono ?_
  rintro e v1 ⟨rfl, b1⟩
  have HC_3 := Lib.hid (HC_2.out.below b1)
  have KB_3 := Lib.hid (KB_2.out.below b1 KB_2.out.lt)
  have FE_3 := Lib.hid (FE_2.out.trans (Frm.of_below (F := own3 g d v) b1 (fun i hi hg => by omega)) (fun _ _ h => h))
  clear HC_2 KB_2 FE_2
  clear b1
  generalize digI p x n = dg at *
  go_wp2_with fail
  go_ret
  exact ⟨rfl, HC_3.out, FE_3.out⟩

set_option maxRecDepth 100000 in
set_option maxHeartbeats 2000000 in
theorem reveal_0 (g d v : Nat) (s : St) (p x n : Int) (w : World) (h : Cm w g d v s) (hp : I64 p) (c : Int) (hi : inP s p = true) (hl : s.lock = true) (hf : findK s.cs p = some c) (hr : findK s.rs p = none) (hn : U64 n) (hx : U64 x) (hm : s.rs.length < maxLen) (hd : digI p x n = c) :
    Calls Try.prog 18 #[.pointer (some ⟨g, 0, none⟩), .agg #[.int .i64 p, .int .u64 x, .int .u64 n]] w (CmPost g d v ⟨s.n, s.q, s.lock, s.cs, s.rs ++ [(p, x)]⟩ (.int .i64 0) w) := by
  have HX := Lib.hid hx
  have HM := Lib.hid hm
  clear hx hm
  have hne : (digI p x n != c) = false := by simp [hd]
  clear hd
  obtain ⟨W0, hW0⟩ : ∃ W0, W0 = w.alloc (.cells #[.int .i64 p, .int .u64 x, .int .u64 n] 24) := ⟨_, rfl⟩
  have HC_0 : Hid (Cm W0 g d v s) := by rw [hW0]; exact h.below ((Below.refl _ w).alloc (Nat.le_refl _) _)
  have KB_0 : Hid (Blk W0 w.heap.size 24 #[.int .i64 p, .int .u64 x, .int .u64 n]) := by rw [hW0]; exact Blk.new _ _ _
  have FE_0 : Hid (Frm (own3 g d v) w W0) := by rw [hW0]; exact (Frm.refl _ w).alloc _
  have HNE : Hid (∀ k, own3 g d v k → k ≠ w.heap.size) := fun k hk e => by have := h.lt hk; omega
  have HW := Lib.hid hW0
  have HP := Lib.hid hp
  have q0 : W0.cell? ⟨g, 0, none⟩ = some (.int .i64 s.n) := HC_0.out.b.cell 0
  have HI := Lib.hid hi
  clear hW0 h hp hi
  have q2 : W0.cell? ⟨g, 2, none⟩ = some (.int .i64 1) := by have := HC_0.out.b.cell 2; unfold gcells lk at this; rw [hl] at this; exact this
  have HL := Lib.hid hl
  clear hl
  have HF := Lib.hid hf
  clear hf
  have HR := Lib.hid hr
  clear hr
  have HN := Lib.hid hn
  clear hn
  go_enter Try.func18, Try.ntmps18
  go_wp2_with fail
  rw [← HW.out]
  clear HW
  refine (has_any g s p _ q0).mono ?_
  rintro e w' ⟨rfl, rfl⟩
  rw [HI.out]
  clear q0
  go_wp2_with fail
  clear q2
  have F : Below W0.heap.size W0 W0.drew := (Below.refl _ _).drew
  have HC_1 := Lib.hid (HC_0.out.below F)
  have KB_1 := Lib.hid (KB_0.out.below F KB_0.out.lt)
  have FE_1 := Lib.hid (FE_0.out.trans (Frm.of_below (F := own3 g d v) F (fun i hi hg => by omega)) (fun _ _ h => h))
  clear HC_0 KB_0 FE_0
  clear F
  refine Reg.start (by kernel_rfl) ?_
  refine Reg.take 0 (v := ?_) rfl (by kernel_rfl) (fun _ _ _ h => h) rfl ?_ ?_
  rotate_left
  · intro W hW
    go_simp
    try with_reducible rfl
  try simp only [Act.put, List.setIfInBounds_toArray, List.set_cons_zero, List.set_cons_succ]
  refine Reg.take 1 (v := ?_) rfl (by kernel_rfl) (fun _ _ _ h => h) rfl ?_ ?_
  rotate_left
  · intro W hW
    go_simp
    try with_reducible rfl
  try simp only [Act.put, List.setIfInBounds_toArray, List.set_cons_zero, List.set_cons_succ]
  refine Reg.take 2 (v := ?_) rfl (by kernel_rfl) (fun _ _ _ h => h) rfl ?_ ?_
  rotate_left
  · intro W hW
    go_simp
    try with_reducible rfl
  try simp only [Act.put, List.setIfInBounds_toArray, List.set_cons_zero, List.set_cons_succ]
  refine Reg.take 3 (v := ?_) rfl (by kernel_rfl) (fun _ _ _ h => h) rfl ?_ ?_
  rotate_left
  · intro W hW
    have q : W.cell? ⟨g, 3, none⟩ = some (.map (some d)) := (HC_1.out.b.below hW.all HC_1.out.b.lt).cell 3
    go_simp
    try with_reducible rfl
  try simp only [Act.put, List.setIfInBounds_toArray, List.set_cons_zero, List.set_cons_succ]
  refine Reg.take 4 (v := ?_) rfl (by kernel_rfl) (fun _ _ _ h => h) rfl ?_ ?_
  rotate_left
  · intro W hW
    go_simp
    try with_reducible rfl
  try simp only [Act.put, List.setIfInBounds_toArray, List.set_cons_zero, List.set_cons_succ]
  refine Reg.take 5 (v := ?_) rfl (by kernel_rfl) (fun _ _ _ h => h) rfl ?_ ?_
  rotate_left
  · intro W hW
    have q : W.cell? ⟨w.heap.size, 0, none⟩ = some (.int .i64 p) := (KB_1.out.below hW.all KB_1.out.lt).cell 0
    go_simp
    try with_reducible rfl
  try simp only [Act.put, List.setIfInBounds_toArray, List.set_cons_zero, List.set_cons_succ]
  refine Reg.take 6 (v := ?_) rfl (by kernel_rfl) (fun _ _ _ h => h) rfl ?_ ?_
  rotate_left
  · intro W hW
    have lkp := look_some (HC_1.out.m.below hW.all) HP.out.wf HF.out
    go_simp
    try with_reducible rfl
  try simp only [Act.put, List.setIfInBounds_toArray, List.set_cons_zero, List.set_cons_succ]
  refine Reg.take 7 (v := ?_) rfl (by kernel_rfl) (fun _ _ _ h => h) rfl ?_ ?_
  rotate_left
  · intro W hW
    go_simp
    try with_reducible rfl
  try simp only [Act.put, List.setIfInBounds_toArray, List.set_cons_zero, List.set_cons_succ]
  refine Reg.take 8 (v := ?_) rfl (by kernel_rfl) (fun _ _ _ h => h) rfl ?_ ?_
  rotate_left
  · intro W hW
    go_simp
    try with_reducible rfl
  try simp only [Act.put, List.setIfInBounds_toArray, List.set_cons_zero, List.set_cons_succ]
  refine Reg.take 9 (v := ?_) rfl (by kernel_rfl) (fun _ _ _ h => h) rfl ?_ ?_
  rotate_left
  · intro W hW
    go_simp
    try with_reducible rfl
  try simp only [Act.put, List.setIfInBounds_toArray, List.set_cons_zero, List.set_cons_succ]
  refine Reg.take 10 (v := ?_) rfl (by kernel_rfl) (fun _ _ _ h => h) rfl ?_ ?_
  rotate_left
  · intro W hW
    go_simp
    try with_reducible rfl
  try simp only [Act.put, List.setIfInBounds_toArray, List.set_cons_zero, List.set_cons_succ]
  refine Reg.take 11 (v := ?_) rfl (by kernel_rfl) (fun _ _ _ h => h) rfl ?_ ?_
  rotate_left
  · intro W hW
    go_simp
    try with_reducible rfl
  try simp only [Act.put, List.setIfInBounds_toArray, List.set_cons_zero, List.set_cons_succ]
  refine Reg.done (by kernel_rfl) ?_
  go_wp2_with fail
  have F : Below W0.drew.heap.size W0.drew W0.drew.drew := (Below.refl _ _).drew
  have HC_2 := Lib.hid (HC_1.out.below F)
  have KB_2 := Lib.hid (KB_1.out.below F KB_1.out.lt)
  have FE_2 := Lib.hid (FE_1.out.trans (Frm.of_below (F := own3 g d v) F (fun i hi hg => by omega)) (fun _ _ h => h))
  clear HC_1 KB_1 FE_1
  clear F
  refine Reg.start (by kernel_rfl) ?_
  refine Reg.take 0 (v := ?_) rfl (by kernel_rfl) (fun _ _ _ h => h) rfl ?_ ?_
  rotate_left
  · intro W hW
    go_simp
    try with_reducible rfl
  try simp only [Act.put, List.setIfInBounds_toArray, List.set_cons_zero, List.set_cons_succ]
  refine Reg.take 1 (v := ?_) rfl (by kernel_rfl) (fun _ _ _ h => h) rfl ?_ ?_
  rotate_left
  · intro W hW
    go_simp
    try with_reducible rfl
  try simp only [Act.put, List.setIfInBounds_toArray, List.set_cons_zero, List.set_cons_succ]
  refine Reg.take 2 (v := ?_) rfl (by kernel_rfl) (fun _ _ _ h => h) rfl ?_ ?_
  rotate_left
  · intro W hW
    go_simp
    try with_reducible rfl
  try simp only [Act.put, List.setIfInBounds_toArray, List.set_cons_zero, List.set_cons_succ]
  refine Reg.take 3 (v := ?_) rfl (by kernel_rfl) (fun _ _ _ h => h) rfl ?_ ?_
  rotate_left
  · intro W hW
    have q : W.cell? ⟨g, 4, none⟩ = some (.map (some v)) := (HC_2.out.b.below hW.all HC_2.out.b.lt).cell 4
    go_simp
    try with_reducible rfl
  try simp only [Act.put, List.setIfInBounds_toArray, List.set_cons_zero, List.set_cons_succ]
  refine Reg.take 4 (v := ?_) rfl (by kernel_rfl) (fun _ _ _ h => h) rfl ?_ ?_
  rotate_left
  · intro W hW
    go_simp
    try with_reducible rfl
  try simp only [Act.put, List.setIfInBounds_toArray, List.set_cons_zero, List.set_cons_succ]
  refine Reg.take 5 (v := ?_) rfl (by kernel_rfl) (fun _ _ _ h => h) rfl ?_ ?_
  rotate_left
  · intro W hW
    have q : W.cell? ⟨w.heap.size, 0, none⟩ = some (.int .i64 p) := (KB_2.out.below hW.all KB_2.out.lt).cell 0
    go_simp
    try with_reducible rfl
  try simp only [Act.put, List.setIfInBounds_toArray, List.set_cons_zero, List.set_cons_succ]
  refine Reg.take 6 (v := ?_) rfl (by kernel_rfl) (fun _ _ _ h => h) rfl ?_ ?_
  rotate_left
  · intro W hW
    have lkp := look_none (HC_2.out.r.below hW.all) HP.out.wf HR.out
    go_simp
    try with_reducible rfl
  try simp only [Act.put, List.setIfInBounds_toArray, List.set_cons_zero, List.set_cons_succ]
  refine Reg.take 7 (v := ?_) rfl (by kernel_rfl) (fun _ _ _ h => h) rfl ?_ ?_
  rotate_left
  · intro W hW
    go_simp
    try with_reducible rfl
  try simp only [Act.put, List.setIfInBounds_toArray, List.set_cons_zero, List.set_cons_succ]
  refine Reg.take 8 (v := ?_) rfl (by kernel_rfl) (fun _ _ _ h => h) rfl ?_ ?_
  rotate_left
  · intro W hW
    go_simp
    try with_reducible rfl
  try simp only [Act.put, List.setIfInBounds_toArray, List.set_cons_zero, List.set_cons_succ]
  refine Reg.take 9 (v := ?_) rfl (by kernel_rfl) (fun _ _ _ h => h) rfl ?_ ?_
  rotate_left
  · intro W hW
    go_simp
    try with_reducible rfl
  try simp only [Act.put, List.setIfInBounds_toArray, List.set_cons_zero, List.set_cons_succ]
  refine Reg.take 10 (v := ?_) rfl (by kernel_rfl) (fun _ _ _ h => h) rfl ?_ ?_
  rotate_left
  · intro W hW
    go_simp
    try with_reducible rfl
  try simp only [Act.put, List.setIfInBounds_toArray, List.set_cons_zero, List.set_cons_succ]
  refine Reg.take 11 (v := ?_) rfl (by kernel_rfl) (fun _ _ _ h => h) rfl ?_ ?_
  rotate_left
  · intro W hW
    go_simp
    try with_reducible rfl
  try simp only [Act.put, List.setIfInBounds_toArray, List.set_cons_zero, List.set_cons_succ]
  refine Reg.done (by kernel_rfl) ?_
  have l0 : (loadRow 24 (.pointer (some ⟨w.heap.size, 0, none⟩))).run Try.prog W0.drew.drew = .ok (.agg #[.int .i64 p, .int .u64 x, .int .u64 n]) W0.drew.drew := load_rv KB_2.out rfl
  go_wp2_with fail
  clear l0
  refine (digest_any p x n _ HN.out).mono ?_
  rintro e v1 ⟨rfl, b1⟩
  have HC_3 := Lib.hid (HC_2.out.below b1)
  have KB_3 := Lib.hid (KB_2.out.below b1 KB_2.out.lt)
  have FE_3 := Lib.hid (FE_2.out.trans (Frm.of_below (F := own3 g d v) b1 (fun i hi hg => by omega)) (fun _ _ h => h))
  clear HC_2 KB_2 FE_2
  clear b1
  generalize digI p x n = dg at *
  go_wp2_with fail
  clear hne
  refine Reg.startS (fun W => Blk W g 60 (gcells s d v) ∧ Blk W w.heap.size 24 #[.int .i64 p, .int .u64 x, .int .u64 n]) (by kernel_rfl) ⟨HC_3.out.b, KB_3.out⟩ ?_
  have hSw : (fun W => Blk W g 60 (gcells s d v) ∧ Blk W w.heap.size 24 #[.int .i64 p, .int .u64 x, .int .u64 n]) v1.drew := ⟨HC_3.out.b, KB_3.out⟩
  refine Reg.takeS 0 (v := ?_) rfl (by kernel_rfl) (fun _ _ _ h => h) rfl ?_ hSw ?_
  rotate_left
  · intro W hW
    go_simp
    try with_reducible rfl
  try simp only [Act.put, List.setIfInBounds_toArray, List.set_cons_zero, List.set_cons_succ]
  refine Reg.takeS 1 (v := ?_) rfl (by kernel_rfl) (fun _ _ _ h => h) rfl ?_ hSw ?_
  rotate_left
  · intro W hW
    go_simp
    try with_reducible rfl
  try simp only [Act.put, List.setIfInBounds_toArray, List.set_cons_zero, List.set_cons_succ]
  refine Reg.takeS 2 (v := ?_) rfl (by kernel_rfl) (fun _ _ _ h => h) rfl ?_ hSw ?_
  rotate_left
  · intro W hW
    go_simp
    try with_reducible rfl
  try simp only [Act.put, List.setIfInBounds_toArray, List.set_cons_zero, List.set_cons_succ]
  refine Reg.takeS 3 (v := ?_) rfl (by kernel_rfl) (fun _ _ _ h => h) rfl ?_ hSw ?_
  rotate_left
  · intro W hW
    have q : W.cell? ⟨g, 4, none⟩ = some (.map (some v)) := hW.1.cell 4
    go_simp
    try with_reducible rfl
  try simp only [Act.put, List.setIfInBounds_toArray, List.set_cons_zero, List.set_cons_succ]
  refine Reg.takeS 4 (v := ?_) rfl (by kernel_rfl) (fun _ _ _ h => h) rfl ?_ hSw ?_
  rotate_left
  · intro W hW
    go_simp
    try with_reducible rfl
  try simp only [Act.put, List.setIfInBounds_toArray, List.set_cons_zero, List.set_cons_succ]
  refine Reg.takeS 5 (v := ?_) rfl (by kernel_rfl) (fun _ _ _ h => h) rfl ?_ hSw ?_
  rotate_left
  · intro W hW
    have q : W.cell? ⟨w.heap.size, 0, none⟩ = some (.int .i64 p) := hW.2.cell 0
    go_simp
    try with_reducible rfl
  try simp only [Act.put, List.setIfInBounds_toArray, List.set_cons_zero, List.set_cons_succ]
  refine Reg.takeS 6 (v := ?_) rfl (by kernel_rfl) (fun _ _ _ h => h) rfl ?_ hSw ?_
  rotate_left
  · intro W hW
    go_simp
    try with_reducible rfl
  try simp only [Act.put, List.setIfInBounds_toArray, List.set_cons_zero, List.set_cons_succ]
  refine Reg.takeS 7 (v := ?_) rfl (by kernel_rfl) (fun _ _ _ h => h) rfl ?_ hSw ?_
  rotate_left
  · intro W hW
    have q : W.cell? ⟨w.heap.size, 1, none⟩ = some (.int .u64 x) := hW.2.cell 1
    go_simp
    try with_reducible rfl
  try simp only [Act.put, List.setIfInBounds_toArray, List.set_cons_zero, List.set_cons_succ]
  refine Reg.doS 8 rfl (by kernel_rfl) rfl (fun K hK => ?_)
  go_simp
  have hm : MapL Try.prog 3 22 v1.drew v s.rs := HC_3.out.r.below ((Below.refl _ v1).drew)
  obtain ⟨w1, hrun, hm1, hg1⟩ := hm.store kk ee mm HP.out.wf (u64_wf HX.out) HR.out HM.out
  go_simp
  have hF : Frm (fun k => k = v) v1.drew w1 := Frm.of_grown hg1 fun i hi => by injection hi with hi; exact hi.symm
  have kb : Blk w1 g 60 (gcells s d v) := hSw.1.frm hF (fun e => HC_3.out.gv e.symm)
  have kx : Blk w1 w.heap.size 24 #[.int .i64 p, .int .u64 x, .int .u64 n] := hSw.2.frm hF (fun e => HNE.out v (.inr (.inr rfl)) e.symm)
  have kr : MapL Try.prog 3 22 w1 d s.cs := (HC_3.out.m.below ((Below.refl _ v1).drew)).frm hF (fun e => HC_3.out.ne e)
  have HE : Hid (Cm w1 g d v ⟨s.n, s.q, s.lock, s.cs, s.rs ++ [(p, x)]⟩) := ⟨kb, kr, hm1, HC_3.out.ne⟩
  have FE2 : Hid (Frm (own3 g d v) w w1) := FE_3.out.trans (((Frm.refl (own3 g d v) v1).drew).trans (hF.weaken (G := own3 g d v) fun i _ e => .inr (.inr e)) (fun _ _ h => h)) (fun _ _ h => h)
  refine hK.out _ _ ⟨kb, kx⟩ ?_
  clear hK K hrun hm1 hg1 hF kb kx kr hm hSw
  try simp only [Act.put]
  refine Reg.done (by kernel_rfl) ?_
  go_wp2_with fail
  go_ret
  exact ⟨rfl, HE.out, FE2.out⟩

theorem reveal_any (g d v : Nat) (s : St) (p x n : Int) (w : World) (h : Cm w g d v s) (hp : I64 p) (hn : U64 n) (hx : U64 x) (hm : s.rs.length < maxLen) : Calls Try.prog 18 #[.pointer (some ⟨g, 0, none⟩), .agg #[.int .i64 p, .int .u64 x, .int .u64 n]] w (CmPost g d v (rev s p x n) (.int .i64 (revE s p x n)) w) := by
  unfold rev revE
  by_cases hi : inP s p = true
  · by_cases hl : s.lock = true
    · cases hf : findK s.cs p with
      | none => simpa [hi, hl, hf] using reveal_5 g d v s p x n w h hp hi hl hf
      | some c =>
        cases hr : findK s.rs p with
        | some c2 => simpa [hi, hl, hf, hr] using reveal_6 g d v s p x n w h hp c c2 hi hl hf hr
        | none =>
          by_cases hd : digI p x n = c
          · simpa [hi, hl, hf, hr, hd] using reveal_0 g d v s p x n w h hp c hi hl hf hr hn hx hm hd
          · simpa [hi, hl, hf, hr, hd] using reveal_15 g d v s p x n w h hp c hi hl hf hr hn hd
    · have hl' : s.lock = false := by simpa using hl
      simpa [hi, hl'] using reveal_8 g d v s p x n w h hp hi hl'
  · have hi' : inP s p = false := by simpa using hi
    simpa [hi'] using reveal_2 g d v s p x n w h hp hi'
end Go.Proofs.Ytdgekhbmcmojdaa.Cm
