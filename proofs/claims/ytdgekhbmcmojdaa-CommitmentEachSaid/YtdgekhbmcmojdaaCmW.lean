/-
  The walks of package commitment: has, Digest, New, Commit, Lock, Reveal, Locked. Conditions: the object lies in memory; numbers of their kinds.
-/
import Derived.Test.YtdgekhbmcmojdaaCmP2
import Derived.Test.YtdgekhbmcmojdaaDgWalks
import Derived.Test.YtdgekhbmcmojdaaReg
namespace Go.Proofs.Ytdgekhbmcmojdaa.Cm
open Go.RowKit Go.Proofs.Ytdgekhbmcmojdaa.Mem Go.Proofs.Ytdgekhbmcmojdaa.Dg Go.Proofs.Ytdgekhbmcmojdaa.Mp

def lk (s : St) : Int := if s.lock = true then 1 else 0
def gcells (s : St) (d v : Nat) : Array Value := #[.int .i64 s.n, .int .i64 s.q, .int .i64 (lk s), .map (some d), .map (some v)]
/-- block g is an object in state s; its maps lie in blocks d and v. -/
structure Cm (w : World) (g d v : Nat) (s : St) : Prop where
  b : Blk w g 60 (gcells s d v)
  m : MapL Try.prog 3 22 w d s.cs
  r : MapL Try.prog 3 22 w v s.rs
  ne : d ≠ v
/-- the blocks of an object. -/
def own3 (g d v k : Nat) : Prop := k = g ∨ k = d ∨ k = v
section
variable {w w' : World} {g d v : Nat} {s : St}
theorem Cm.frm {F : Nat → Prop} (h : Cm w g d v s) (hf : Frm F w w') (hn : ∀ k, own3 g d v k → ¬ F k) : Cm w' g d v s :=
  ⟨h.b.frm hf (hn g (.inl rfl)), h.m.frm hf (hn d (.inr (.inl rfl))), h.r.frm hf (hn v (.inr (.inr rfl))), h.ne⟩
theorem Cm.below (h : Cm w g d v s) (hb : Below w.heap.size w w') : Cm w' g d v s := h.frm (F := fun _ => False) (Frm.of_below hb fun i hi hg => by omega) fun _ _ g => g
theorem Cm.lt (h : Cm w g d v s) {k : Nat} (hk : own3 g d v k) : k < w.heap.size := by
  rcases hk with rfl | rfl | rfl
  · exact h.b.lt
  · exact h.m.lt
  · exact h.r.lt
theorem Cm.gd (h : Cm w g d v s) : d ≠ g := h.m.apart h.b
theorem Cm.gv (h : Cm w g d v s) : v ≠ g := h.r.apart h.b
end
/-- a call on an object: its result, the state behind it, and what it may have written. -/
def CmPost (g d v : Nat) (s : St) (x : Value) (w : World) (e : Ending) (w' : World) : Prop := e = .returned x ∧ Cm w' g d v s ∧ Frm (own3 g d v) w w'
theorem kk : Try.prog.underlying 3 = some (.int .i64) := Try.underlying3
theorem ee : Try.prog.underlying 22 = some (.int .u64) := Try.underlying22
theorem mm : Try.prog.underlying 58 = some (.map 3 22) := Try.underlying58
theorem zz (W : World) : (zeroValue 22).run Try.prog W = .ok (.int .u64 0) W := by kernel_rfl
theorem look_none {W : World} {b : Nat} {l : List (Int × Int)} {k : Int} (h : MapL Try.prog 3 22 W b l) (hk : (Lit.int .i64 k).wf = true) (hf : findK l k = none) : (Instr.lookup 58 (.map (some b)) (.int .i64 k) true).run Try.prog W = .ok (.tuple #[.int .u64 0, .bool false]) W := by
  have := h.look kk ee mm zz hk
  rw [hf] at this
  exact this
theorem look_some {W : World} {b : Nat} {l : List (Int × Int)} {k c : Int} (h : MapL Try.prog 3 22 W b l) (hk : (Lit.int .i64 k).wf = true) (hf : findK l k = some c) : (Instr.lookup 58 (.map (some b)) (.int .i64 k) true).run Try.prog W = .ok (.tuple #[.int .u64 c, .bool true]) W := by
  have := h.look kk ee mm zz hk
  rw [hf] at this
  exact this
theorem len_run {W : World} {b : Nat} {l : List (Int × Int)} (h : MapL Try.prog 3 22 W b l) (ty : TypeId) : (Builtin.len_ #[58] ty #[.map (some b)]).run Try.prog W = .ok (.int .i64 (l.length : Int)) W := h.len mm ty
/-- an int's range, behind a word. -/
def I64 (x : Int) : Prop := -9223372036854775808 ≤ x ∧ x ≤ 9223372036854775807
theorem I64.wf {x : Int} (h : I64 x) : (Lit.int .i64 x).wf = true := wf_i64 h.1 h.2
theorem u64_wf {x : Int} (h : U64 x) : (Lit.int .u64 x).wf = true := WalkArith.wf_u64 ⟨h.1, by have := h.2; omega⟩

set_option maxRecDepth 100000 in
set_option maxHeartbeats 2000000 in
theorem has_any (g : Nat) (s : St) (p : Int) (w : World) (h : w.cell? ⟨g, 0, none⟩ = some (.int .i64 s.n)) :
    Calls Try.prog 30 #[.pointer (some ⟨g, 0, none⟩), .int .i64 p] w fun e w' => e = .returned (.bool (inP s p)) ∧ w = w' := by
  by_cases h1 : 1 ≤ p
  · by_cases h2 : p ≤ s.n
    · have HV : Hid (inP s p = true) := (inP_iff s p).2 ⟨h1, h2⟩
      go_enter Try.func30, Try.ntmps30
      go_wp2
      go_ret
      exact ⟨by rw [HV.out]; rfl, rfl⟩
    · have HV : Hid (inP s p = false) := by show _ = _; rw [← Bool.not_eq_true, inP_iff]; omega
      have h3 : s.n < p := by omega
      go_enter Try.func30, Try.ntmps30
      go_wp2
      go_ret
      exact ⟨by rw [HV.out]; rfl, rfl⟩
  · have HV : Hid (inP s p = false) := by show _ = _; rw [← Bool.not_eq_true, inP_iff]; omega
    have h3 : p < 1 := by omega
    go_enter Try.func30, Try.ntmps30
    go_wp2
    go_ret
    exact ⟨by rw [HV.out]; rfl, rfl⟩

set_option maxRecDepth 100000 in
set_option maxHeartbeats 2000000 in
theorem digest_any (p v n : Int) (w : World) (hn : U64 n) :
    Calls Try.prog 11 #[.agg #[.int .i64 p, .int .u64 v, .int .u64 n]] w fun e w' => e = .returned (.int .u64 (digI p v n)) ∧ Below w.heap.size w w' := by
  obtain ⟨W0, hW0⟩ : ∃ W0, W0 = w.alloc (.cells #[.int .i64 p, .int .u64 v, .int .u64 n] 24) := ⟨_, rfl⟩
  have KB : Hid (Blk W0 w.heap.size 24 #[.int .i64 p, .int .u64 v, .int .u64 n]) := by rw [hW0]; exact Blk.new _ _ _
  have BE : Hid (Below w.heap.size w W0) := by rw [hW0]; exact (Below.refl _ w).alloc (Nat.le_refl _) _
  have HN := Lib.hid hn
  have HW := Lib.hid hW0
  have HD : Hid (digI p v n = mixI (bits .xor .u64 (mixI n) (IntKind.u64.wrap (v + IntKind.u64.wrap p)))) := rfl
  clear hn hW0
  go_enter Try.func11, Try.ntmps11
  go_wp2_with fail
  rw [← HW.out]
  clear HW
  refine Reg.start (by kernel_rfl) ?_
  refine Reg.take 0 (v := ?_) rfl (by kernel_rfl) (fun _ _ _ h => h) rfl ?_ ?_
  rotate_left
  · intro W hW
    go_simp
    try with_reducible rfl
  try simp only [Act.put, List.setIfInBounds_toArray, List.set_cons_zero, List.set_cons_succ]
  refine Reg.take 1 (v := ?_) rfl (by kernel_rfl) (fun _ _ _ h => h) rfl ?_ ?_
  rotate_left
  · intro W hW
    have q : W.cell? ⟨w.heap.size, 2, none⟩ = some (.int .u64 n) := (KB.out.below hW.old KB.out.lt).cell 2
    go_simp
    try with_reducible rfl
  try simp only [Act.put, List.setIfInBounds_toArray, List.set_cons_zero, List.set_cons_succ]
  refine Reg.take 3 (v := ?_) rfl (by kernel_rfl) (fun _ _ _ h => h) rfl ?_ ?_
  rotate_left
  · intro W hW
    go_simp
    try with_reducible rfl
  try simp only [Act.put, List.setIfInBounds_toArray, List.set_cons_zero, List.set_cons_succ]
  refine Reg.take 4 (v := ?_) rfl (by kernel_rfl) (fun _ _ _ h => h) rfl ?_ ?_
  rotate_left
  · intro W hW
    have q : W.cell? ⟨w.heap.size, 1, none⟩ = some (.int .u64 v) := (KB.out.below hW.old KB.out.lt).cell 1
    go_simp
    try with_reducible rfl
  try simp only [Act.put, List.setIfInBounds_toArray, List.set_cons_zero, List.set_cons_succ]
  refine Reg.take 5 (v := ?_) rfl (by kernel_rfl) (fun _ _ _ h => h) rfl ?_ ?_
  rotate_left
  · intro W hW
    go_simp
    try with_reducible rfl
  try simp only [Act.put, List.setIfInBounds_toArray, List.set_cons_zero, List.set_cons_succ]
  refine Reg.take 6 (v := ?_) rfl (by kernel_rfl) (fun _ _ _ h => h) rfl ?_ ?_
  rotate_left
  · intro W hW
    have q : W.cell? ⟨w.heap.size, 0, none⟩ = some (.int .i64 p) := (KB.out.below hW.old KB.out.lt).cell 0
    go_simp
    try with_reducible rfl
  try simp only [Act.put, List.setIfInBounds_toArray, List.set_cons_zero, List.set_cons_succ]
  refine Reg.take 7 (v := ?_) rfl (by kernel_rfl) (fun _ _ _ h => h) rfl ?_ ?_
  rotate_left
  · intro W hW
    go_simp
    try with_reducible rfl
  try simp only [Act.put, List.setIfInBounds_toArray, List.set_cons_zero, List.set_cons_succ]
  refine Reg.take 8 (v := ?_) rfl (by kernel_rfl) (fun _ _ _ h => h) rfl ?_ ?_
  rotate_left
  · intro W hW
    go_simp
    try with_reducible rfl
  try simp only [Act.put, List.setIfInBounds_toArray, List.set_cons_zero, List.set_cons_succ]
  refine Reg.do_ 2 rfl (by kernel_rfl) rfl (fun K hK => ?_)
  go_simp
  refine (mix_any n _ HN.out).mono ?_
  rintro e w1 ⟨rfl, rfl⟩
  refine hK.out _ _ (Below.refl _ _) ?_
  clear hK K
  try simp only [Act.put, List.setIfInBounds_toArray, List.set_cons_zero, List.set_cons_succ]
  refine Reg.take 9 (v := ?_) rfl (by kernel_rfl) (fun _ _ _ h => h) rfl ?_ ?_
  rotate_left
  · intro W hW
    go_simp
    try with_reducible rfl
  try simp only [Act.put, List.setIfInBounds_toArray, List.set_cons_zero, List.set_cons_succ]
  refine Reg.do_ 10 rfl (by kernel_rfl) rfl (fun K hK => ?_)
  go_simp
  refine (mix_any _ _ (xor_is_u64 _ _)).mono ?_
  rintro e w1 ⟨rfl, rfl⟩
  refine hK.out _ _ (Below.refl _ _) ?_
  clear hK K
  try simp only [Act.put, List.setIfInBounds_toArray, List.set_cons_zero, List.set_cons_succ]
  refine Reg.take 11 (v := ?_) rfl (by kernel_rfl) (fun _ _ _ h => h) rfl ?_ ?_
  rotate_left
  · intro W hW
    go_simp
    try with_reducible rfl
  try simp only [Act.put, List.setIfInBounds_toArray, List.set_cons_zero, List.set_cons_succ]
  refine Reg.done (by kernel_rfl) ?_
  go_wp2_with fail
  go_ret
  exact ⟨by rw [HD.out]; rfl, BE.out.trans (((Below.refl _ W0).drew).mono BE.out.size)⟩

set_option maxRecDepth 100000 in
set_option maxHeartbeats 2000000 in
theorem digestR_any (p v n : Int) (w : World) (hn : U64 n) :
    Calls Try.prog 12 #[.agg #[.int .i64 p, .int .u64 v, .int .u64 n]] w fun e w' => e = .returned (.int .u64 (digI p v n)) ∧ Below w.heap.size w w' := by
  obtain ⟨W0, hW0⟩ : ∃ W0, W0 = w.alloc (.cells #[.int .i64 p, .int .u64 v, .int .u64 n] 24) := ⟨_, rfl⟩
  have KB : Hid (Blk W0 w.heap.size 24 #[.int .i64 p, .int .u64 v, .int .u64 n]) := by rw [hW0]; exact Blk.new _ _ _
  have BE : Hid (Below w.heap.size w W0) := by rw [hW0]; exact (Below.refl _ w).alloc (Nat.le_refl _) _
  have HN := Lib.hid hn
  have HW := Lib.hid hW0
  have HD : Hid (digI p v n = mixI (bits .xor .u64 (mixI n) (IntKind.u64.wrap (v + IntKind.u64.wrap p)))) := rfl
  clear hn hW0
  go_enter Try.func12, Try.ntmps12
  go_wp2_with fail
  rw [← HW.out]
  clear HW
  refine Reg.start (by kernel_rfl) ?_
  refine Reg.take 0 (v := ?_) rfl (by kernel_rfl) (fun _ _ _ h => h) rfl ?_ ?_
  rotate_left
  · intro W hW
    go_simp
    try with_reducible rfl
  try simp only [Act.put, List.setIfInBounds_toArray, List.set_cons_zero, List.set_cons_succ]
  refine Reg.take 1 (v := ?_) rfl (by kernel_rfl) (fun _ _ _ h => h) rfl ?_ ?_
  rotate_left
  · intro W hW
    have q : W.cell? ⟨w.heap.size, 2, none⟩ = some (.int .u64 n) := (KB.out.below hW.old KB.out.lt).cell 2
    go_simp
    try with_reducible rfl
  try simp only [Act.put, List.setIfInBounds_toArray, List.set_cons_zero, List.set_cons_succ]
  refine Reg.take 3 (v := ?_) rfl (by kernel_rfl) (fun _ _ _ h => h) rfl ?_ ?_
  rotate_left
  · intro W hW
    go_simp
    try with_reducible rfl
  try simp only [Act.put, List.setIfInBounds_toArray, List.set_cons_zero, List.set_cons_succ]
  refine Reg.take 4 (v := ?_) rfl (by kernel_rfl) (fun _ _ _ h => h) rfl ?_ ?_
  rotate_left
  · intro W hW
    have q : W.cell? ⟨w.heap.size, 1, none⟩ = some (.int .u64 v) := (KB.out.below hW.old KB.out.lt).cell 1
    go_simp
    try with_reducible rfl
  try simp only [Act.put, List.setIfInBounds_toArray, List.set_cons_zero, List.set_cons_succ]
  refine Reg.take 5 (v := ?_) rfl (by kernel_rfl) (fun _ _ _ h => h) rfl ?_ ?_
  rotate_left
  · intro W hW
    go_simp
    try with_reducible rfl
  try simp only [Act.put, List.setIfInBounds_toArray, List.set_cons_zero, List.set_cons_succ]
  refine Reg.take 6 (v := ?_) rfl (by kernel_rfl) (fun _ _ _ h => h) rfl ?_ ?_
  rotate_left
  · intro W hW
    have q : W.cell? ⟨w.heap.size, 0, none⟩ = some (.int .i64 p) := (KB.out.below hW.old KB.out.lt).cell 0
    go_simp
    try with_reducible rfl
  try simp only [Act.put, List.setIfInBounds_toArray, List.set_cons_zero, List.set_cons_succ]
  refine Reg.take 7 (v := ?_) rfl (by kernel_rfl) (fun _ _ _ h => h) rfl ?_ ?_
  rotate_left
  · intro W hW
    go_simp
    try with_reducible rfl
  try simp only [Act.put, List.setIfInBounds_toArray, List.set_cons_zero, List.set_cons_succ]
  refine Reg.take 8 (v := ?_) rfl (by kernel_rfl) (fun _ _ _ h => h) rfl ?_ ?_
  rotate_left
  · intro W hW
    go_simp
    try with_reducible rfl
  try simp only [Act.put, List.setIfInBounds_toArray, List.set_cons_zero, List.set_cons_succ]
  refine Reg.do_ 2 rfl (by kernel_rfl) rfl (fun K hK => ?_)
  go_simp
  refine (mixR_any n _ HN.out).mono ?_
  rintro e w1 ⟨rfl, rfl⟩
  refine hK.out _ _ (Below.refl _ _) ?_
  clear hK K
  try simp only [Act.put, List.setIfInBounds_toArray, List.set_cons_zero, List.set_cons_succ]
  refine Reg.take 9 (v := ?_) rfl (by kernel_rfl) (fun _ _ _ h => h) rfl ?_ ?_
  rotate_left
  · intro W hW
    go_simp
    try with_reducible rfl
  try simp only [Act.put, List.setIfInBounds_toArray, List.set_cons_zero, List.set_cons_succ]
  refine Reg.do_ 10 rfl (by kernel_rfl) rfl (fun K hK => ?_)
  go_simp
  refine (mixR_any _ _ (xor_is_u64 _ _)).mono ?_
  rintro e w1 ⟨rfl, rfl⟩
  refine hK.out _ _ (Below.refl _ _) ?_
  clear hK K
  try simp only [Act.put, List.setIfInBounds_toArray, List.set_cons_zero, List.set_cons_succ]
  refine Reg.take 11 (v := ?_) rfl (by kernel_rfl) (fun _ _ _ h => h) rfl ?_ ?_
  rotate_left
  · intro W hW
    go_simp
    try with_reducible rfl
  try simp only [Act.put, List.setIfInBounds_toArray, List.set_cons_zero, List.set_cons_succ]
  refine Reg.done (by kernel_rfl) ?_
  go_wp2_with fail
  go_ret
  exact ⟨by rw [HD.out]; rfl, BE.out.trans (((Below.refl _ W0).drew).mono BE.out.size)⟩

set_option maxRecDepth 100000 in
set_option maxHeartbeats 2000000 in
theorem commit_2 (g d v : Nat) (s : St) (p x : Int) (w : World) (h : Cm w g d v s) (hp : I64 p) (hi : inP s p = false) :
    Calls Try.prog 14 #[.pointer (some ⟨g, 0, none⟩), .agg #[.int .i64 p, .int .u64 x]] w (CmPost g d v s (.int .i64 2) w) := by
  obtain ⟨W0, hW0⟩ : ∃ W0, W0 = w.alloc (.cells #[.int .i64 p, .int .u64 x] 39) := ⟨_, rfl⟩
  have HC : Hid (Cm W0 g d v s) := by rw [hW0]; exact h.below ((Below.refl _ w).alloc (Nat.le_refl _) _)
  have KB : Hid (Blk W0 w.heap.size 39 #[.int .i64 p, .int .u64 x]) := by rw [hW0]; exact Blk.new _ _ _
  have FE : Hid (Frm (own3 g d v) w W0) := by rw [hW0]; exact (Frm.refl _ w).alloc _
  have HW := Lib.hid hW0
  have Z0 : Hid (w.heap.size < W0.heap.size) := KB.out.lt
  have q0 : W0.cell? ⟨g, 0, none⟩ = some (.int .i64 s.n) := HC.out.b.cell 0
  have HP := Lib.hid hp
  clear hW0 h hp
  have HI := Lib.hid hi
  clear hi
  go_enter Try.func14, Try.ntmps14
  go_wp2_with fail
  rw [← HW.out]
  clear HW
  refine (has_any g s p _ q0).mono ?_
  rintro e w' ⟨rfl, rfl⟩
  rw [HI.out]
  go_wp2_with fail
  go_ret
  exact ⟨rfl, HC.out, FE.out⟩

set_option maxRecDepth 100000 in
set_option maxHeartbeats 2000000 in
theorem commit_8 (g d v : Nat) (s : St) (p x : Int) (w : World) (h : Cm w g d v s) (hp : I64 p) (hi : inP s p = true) (hl : s.lock = true) :
    Calls Try.prog 14 #[.pointer (some ⟨g, 0, none⟩), .agg #[.int .i64 p, .int .u64 x]] w (CmPost g d v s (.int .i64 8) w) := by
  obtain ⟨W0, hW0⟩ : ∃ W0, W0 = w.alloc (.cells #[.int .i64 p, .int .u64 x] 39) := ⟨_, rfl⟩
  have HC : Hid (Cm W0 g d v s) := by rw [hW0]; exact h.below ((Below.refl _ w).alloc (Nat.le_refl _) _)
  have KB : Hid (Blk W0 w.heap.size 39 #[.int .i64 p, .int .u64 x]) := by rw [hW0]; exact Blk.new _ _ _
  have FE : Hid (Frm (own3 g d v) w W0) := by rw [hW0]; exact (Frm.refl _ w).alloc _
  have HW := Lib.hid hW0
  have Z0 : Hid (w.heap.size < W0.heap.size) := KB.out.lt
  have q0 : W0.cell? ⟨g, 0, none⟩ = some (.int .i64 s.n) := HC.out.b.cell 0
  have HP := Lib.hid hp
  clear hW0 h hp
  have HI := Lib.hid hi
  have q2 : W0.cell? ⟨g, 2, none⟩ = some (.int .i64 1) := by have := HC.out.b.cell 2; unfold gcells lk at this; rw [hl] at this; exact this
  clear hi hl
  go_enter Try.func14, Try.ntmps14
  go_wp2_with fail
  rw [← HW.out]
  clear HW
  refine (has_any g s p _ q0).mono ?_
  rintro e w' ⟨rfl, rfl⟩
  rw [HI.out]
  go_wp2_with fail
  go_ret
  exact ⟨rfl, HC.out, FE.out⟩

set_option maxRecDepth 100000 in
set_option maxHeartbeats 2000000 in
theorem commit_6 (g d v : Nat) (s : St) (p x : Int) (w : World) (h : Cm w g d v s) (hp : I64 p) (c : Int) (hi : inP s p = true) (hl : s.lock = false) (hf : findK s.cs p = some c) :
    Calls Try.prog 14 #[.pointer (some ⟨g, 0, none⟩), .agg #[.int .i64 p, .int .u64 x]] w (CmPost g d v s (.int .i64 6) w) := by
  obtain ⟨W0, hW0⟩ : ∃ W0, W0 = w.alloc (.cells #[.int .i64 p, .int .u64 x] 39) := ⟨_, rfl⟩
  have HC : Hid (Cm W0 g d v s) := by rw [hW0]; exact h.below ((Below.refl _ w).alloc (Nat.le_refl _) _)
  have KB : Hid (Blk W0 w.heap.size 39 #[.int .i64 p, .int .u64 x]) := by rw [hW0]; exact Blk.new _ _ _
  have FE : Hid (Frm (own3 g d v) w W0) := by rw [hW0]; exact (Frm.refl _ w).alloc _
  have HW := Lib.hid hW0
  have Z0 : Hid (w.heap.size < W0.heap.size) := KB.out.lt
  have q0 : W0.cell? ⟨g, 0, none⟩ = some (.int .i64 s.n) := HC.out.b.cell 0
  have HP := Lib.hid hp
  clear hW0 h hp
  have HI := Lib.hid hi
  have HF := Lib.hid hf
  have q2 : W0.cell? ⟨g, 2, none⟩ = some (.int .i64 0) := by have := HC.out.b.cell 2; unfold gcells lk at this; rw [hl] at this; exact this
  clear hi hl hf
  go_enter Try.func14, Try.ntmps14
  go_wp2_with fail
  rw [← HW.out]
  clear HW
  refine (has_any g s p _ q0).mono ?_
  rintro e w' ⟨rfl, rfl⟩
  rw [HI.out]
  go_wp2_with fail
  refine Reg.start (by kernel_rfl) ?_
  refine Reg.take 0 (v := ?_) rfl (by kernel_rfl) (fun _ _ _ h => h) rfl ?_ ?_
  rotate_left
  · intro W hW
    go_simp
    try with_reducible rfl
  try simp only [Act.put, List.setIfInBounds_toArray, List.set_cons_zero, List.set_cons_succ]
  refine Reg.take 1 (v := ?_) rfl (by kernel_rfl) (fun _ _ _ h => h) rfl ?_ ?_
  rotate_left
  · intro W hW
    go_simp
    try with_reducible rfl
  try simp only [Act.put, List.setIfInBounds_toArray, List.set_cons_zero, List.set_cons_succ]
  refine Reg.take 2 (v := ?_) rfl (by kernel_rfl) (fun _ _ _ h => h) rfl ?_ ?_
  rotate_left
  · intro W hW
    go_simp
    try with_reducible rfl
  try simp only [Act.put, List.setIfInBounds_toArray, List.set_cons_zero, List.set_cons_succ]
  refine Reg.take 3 (v := ?_) rfl (by kernel_rfl) (fun _ _ _ h => h) rfl ?_ ?_
  rotate_left
  · intro W hW
    have q : W.cell? ⟨g, 3, none⟩ = some (.map (some d)) := (HC.out.b.below hW.old HC.out.b.lt).cell 3
    go_simp
    try with_reducible rfl
  try simp only [Act.put, List.setIfInBounds_toArray, List.set_cons_zero, List.set_cons_succ]
  refine Reg.take 4 (v := ?_) rfl (by kernel_rfl) (fun _ _ _ h => h) rfl ?_ ?_
  rotate_left
  · intro W hW
    go_simp
    try with_reducible rfl
  try simp only [Act.put, List.setIfInBounds_toArray, List.set_cons_zero, List.set_cons_succ]
  refine Reg.take 5 (v := ?_) rfl (by kernel_rfl) (fun _ _ _ h => h) rfl ?_ ?_
  rotate_left
  · intro W hW
    have q : W.cell? ⟨w.heap.size, 0, none⟩ = some (.int .i64 p) := (KB.out.below hW.old KB.out.lt).cell 0
    go_simp
    try with_reducible rfl
  try simp only [Act.put, List.setIfInBounds_toArray, List.set_cons_zero, List.set_cons_succ]
  refine Reg.take 6 (v := ?_) rfl (by kernel_rfl) (fun _ _ _ h => h) rfl ?_ ?_
  rotate_left
  · intro W hW
    have lkp := look_some (HC.out.m.below hW.old) HP.out.wf HF.out
    go_simp
    try with_reducible rfl
  try simp only [Act.put, List.setIfInBounds_toArray, List.set_cons_zero, List.set_cons_succ]
  refine Reg.take 7 (v := ?_) rfl (by kernel_rfl) (fun _ _ _ h => h) rfl ?_ ?_
  rotate_left
  · intro W hW
    go_simp
    try with_reducible rfl
  try simp only [Act.put, List.setIfInBounds_toArray, List.set_cons_zero, List.set_cons_succ]
  refine Reg.take 8 (v := ?_) rfl (by kernel_rfl) (fun _ _ _ h => h) rfl ?_ ?_
  rotate_left
  · intro W hW
    go_simp
    try with_reducible rfl
  try simp only [Act.put, List.setIfInBounds_toArray, List.set_cons_zero, List.set_cons_succ]
  refine Reg.take 9 (v := ?_) rfl (by kernel_rfl) (fun _ _ _ h => h) rfl ?_ ?_
  rotate_left
  · intro W hW
    go_simp
    try with_reducible rfl
  try simp only [Act.put, List.setIfInBounds_toArray, List.set_cons_zero, List.set_cons_succ]
  refine Reg.take 10 (v := ?_) rfl (by kernel_rfl) (fun _ _ _ h => h) rfl ?_ ?_
  rotate_left
  · intro W hW
    go_simp
    try with_reducible rfl
  try simp only [Act.put, List.setIfInBounds_toArray, List.set_cons_zero, List.set_cons_succ]
  refine Reg.take 11 (v := ?_) rfl (by kernel_rfl) (fun _ _ _ h => h) rfl ?_ ?_
  rotate_left
  · intro W hW
    go_simp
    try with_reducible rfl
  try simp only [Act.put, List.setIfInBounds_toArray, List.set_cons_zero, List.set_cons_succ]
  refine Reg.done (by kernel_rfl) ?_
  go_wp2_with fail
  go_ret
  exact ⟨rfl, HC.out.below (Below.refl _ W0).drew, FE.out.drew⟩

set_option maxRecDepth 100000 in
set_option maxHeartbeats 2000000 in
theorem commit_0 (g d v : Nat) (s : St) (p x : Int) (w : World) (h : Cm w g d v s) (hp : I64 p) (hi : inP s p = true) (hl : s.lock = false) (hf : findK s.cs p = none) (hx : U64 x) (hn : s.cs.length < maxLen) :
    Calls Try.prog 14 #[.pointer (some ⟨g, 0, none⟩), .agg #[.int .i64 p, .int .u64 x]] w (CmPost g d v ⟨s.n, s.q, s.lock, s.cs ++ [(p, x)], s.rs⟩ (.int .i64 0) w) := by
  have HL := Lib.hid hl
  have HX := Lib.hid hx
  have HN2 := Lib.hid hn
  clear hx hn
  obtain ⟨W0, hW0⟩ : ∃ W0, W0 = w.alloc (.cells #[.int .i64 p, .int .u64 x] 39) := ⟨_, rfl⟩
  have HC : Hid (Cm W0 g d v s) := by rw [hW0]; exact h.below ((Below.refl _ w).alloc (Nat.le_refl _) _)
  have KB : Hid (Blk W0 w.heap.size 39 #[.int .i64 p, .int .u64 x]) := by rw [hW0]; exact Blk.new _ _ _
  have FE : Hid (Frm (own3 g d v) w W0) := by rw [hW0]; exact (Frm.refl _ w).alloc _
  have HW := Lib.hid hW0
  have Z0 : Hid (w.heap.size < W0.heap.size) := KB.out.lt
  have q0 : W0.cell? ⟨g, 0, none⟩ = some (.int .i64 s.n) := HC.out.b.cell 0
  have HP := Lib.hid hp
  clear hW0 h hp
  have HI := Lib.hid hi
  have HF := Lib.hid hf
  have q2 : W0.cell? ⟨g, 2, none⟩ = some (.int .i64 0) := by have := HC.out.b.cell 2; unfold gcells lk at this; rw [hl] at this; exact this
  clear hi hl hf
  go_enter Try.func14, Try.ntmps14
  go_wp2_with fail
  rw [← HW.out]
  clear HW
  refine (has_any g s p _ q0).mono ?_
  rintro e w' ⟨rfl, rfl⟩
  rw [HI.out]
  go_wp2_with fail
  refine Reg.start (by kernel_rfl) ?_
  refine Reg.take 0 (v := ?_) rfl (by kernel_rfl) (fun _ _ _ h => h) rfl ?_ ?_
  rotate_left
  · intro W hW
    go_simp
    try with_reducible rfl
  try simp only [Act.put, List.setIfInBounds_toArray, List.set_cons_zero, List.set_cons_succ]
  refine Reg.take 1 (v := ?_) rfl (by kernel_rfl) (fun _ _ _ h => h) rfl ?_ ?_
  rotate_left
  · intro W hW
    go_simp
    try with_reducible rfl
  try simp only [Act.put, List.setIfInBounds_toArray, List.set_cons_zero, List.set_cons_succ]
  refine Reg.take 2 (v := ?_) rfl (by kernel_rfl) (fun _ _ _ h => h) rfl ?_ ?_
  rotate_left
  · intro W hW
    go_simp
    try with_reducible rfl
  try simp only [Act.put, List.setIfInBounds_toArray, List.set_cons_zero, List.set_cons_succ]
  refine Reg.take 3 (v := ?_) rfl (by kernel_rfl) (fun _ _ _ h => h) rfl ?_ ?_
  rotate_left
  · intro W hW
    have q : W.cell? ⟨g, 3, none⟩ = some (.map (some d)) := (HC.out.b.below hW.old HC.out.b.lt).cell 3
    go_simp
    try with_reducible rfl
  try simp only [Act.put, List.setIfInBounds_toArray, List.set_cons_zero, List.set_cons_succ]
  refine Reg.take 4 (v := ?_) rfl (by kernel_rfl) (fun _ _ _ h => h) rfl ?_ ?_
  rotate_left
  · intro W hW
    go_simp
    try with_reducible rfl
  try simp only [Act.put, List.setIfInBounds_toArray, List.set_cons_zero, List.set_cons_succ]
  refine Reg.take 5 (v := ?_) rfl (by kernel_rfl) (fun _ _ _ h => h) rfl ?_ ?_
  rotate_left
  · intro W hW
    have q : W.cell? ⟨w.heap.size, 0, none⟩ = some (.int .i64 p) := (KB.out.below hW.old KB.out.lt).cell 0
    go_simp
    try with_reducible rfl
  try simp only [Act.put, List.setIfInBounds_toArray, List.set_cons_zero, List.set_cons_succ]
  refine Reg.take 6 (v := ?_) rfl (by kernel_rfl) (fun _ _ _ h => h) rfl ?_ ?_
  rotate_left
  · intro W hW
    have lkp := look_none (HC.out.m.below hW.old) HP.out.wf HF.out
    go_simp
    try with_reducible rfl
  try simp only [Act.put, List.setIfInBounds_toArray, List.set_cons_zero, List.set_cons_succ]
  refine Reg.take 7 (v := ?_) rfl (by kernel_rfl) (fun _ _ _ h => h) rfl ?_ ?_
  rotate_left
  · intro W hW
    go_simp
    try with_reducible rfl
  try simp only [Act.put, List.setIfInBounds_toArray, List.set_cons_zero, List.set_cons_succ]
  refine Reg.take 8 (v := ?_) rfl (by kernel_rfl) (fun _ _ _ h => h) rfl ?_ ?_
  rotate_left
  · intro W hW
    go_simp
    try with_reducible rfl
  try simp only [Act.put, List.setIfInBounds_toArray, List.set_cons_zero, List.set_cons_succ]
  refine Reg.take 9 (v := ?_) rfl (by kernel_rfl) (fun _ _ _ h => h) rfl ?_ ?_
  rotate_left
  · intro W hW
    go_simp
    try with_reducible rfl
  try simp only [Act.put, List.setIfInBounds_toArray, List.set_cons_zero, List.set_cons_succ]
  refine Reg.take 10 (v := ?_) rfl (by kernel_rfl) (fun _ _ _ h => h) rfl ?_ ?_
  rotate_left
  · intro W hW
    go_simp
    try with_reducible rfl
  try simp only [Act.put, List.setIfInBounds_toArray, List.set_cons_zero, List.set_cons_succ]
  refine Reg.take 11 (v := ?_) rfl (by kernel_rfl) (fun _ _ _ h => h) rfl ?_ ?_
  rotate_left
  · intro W hW
    go_simp
    try with_reducible rfl
  try simp only [Act.put, List.setIfInBounds_toArray, List.set_cons_zero, List.set_cons_succ]
  refine Reg.done (by kernel_rfl) ?_
  go_wp2_with fail
  refine Reg.startS (fun W => Blk W g 60 (gcells s d v) ∧ Blk W w.heap.size 39 #[.int .i64 p, .int .u64 x]) (by kernel_rfl) ⟨HC.out.b, KB.out⟩ ?_
  have hSw : (fun W => Blk W g 60 (gcells s d v) ∧ Blk W w.heap.size 39 #[.int .i64 p, .int .u64 x]) W0.drew.drew := ⟨HC.out.b, KB.out⟩
  refine Reg.takeS 0 (v := ?_) rfl (by kernel_rfl) (fun _ _ _ h => h) rfl ?_ hSw ?_
  rotate_left
  · intro W hW
    go_simp
    try with_reducible rfl
  try simp only [Act.put, List.setIfInBounds_toArray, List.set_cons_zero, List.set_cons_succ]
  refine Reg.takeS 1 (v := ?_) rfl (by kernel_rfl) (fun _ _ _ h => h) rfl ?_ hSw ?_
  rotate_left
  · intro W hW
    go_simp
    try with_reducible rfl
  try simp only [Act.put, List.setIfInBounds_toArray, List.set_cons_zero, List.set_cons_succ]
  refine Reg.takeS 2 (v := ?_) rfl (by kernel_rfl) (fun _ _ _ h => h) rfl ?_ hSw ?_
  rotate_left
  · intro W hW
    go_simp
    try with_reducible rfl
  try simp only [Act.put, List.setIfInBounds_toArray, List.set_cons_zero, List.set_cons_succ]
  refine Reg.takeS 3 (v := ?_) rfl (by kernel_rfl) (fun _ _ _ h => h) rfl ?_ hSw ?_
  rotate_left
  · intro W hW
    have q : W.cell? ⟨g, 3, none⟩ = some (.map (some d)) := hW.1.cell 3
    go_simp
    try with_reducible rfl
  try simp only [Act.put, List.setIfInBounds_toArray, List.set_cons_zero, List.set_cons_succ]
  refine Reg.takeS 4 (v := ?_) rfl (by kernel_rfl) (fun _ _ _ h => h) rfl ?_ hSw ?_
  rotate_left
  · intro W hW
    go_simp
    try with_reducible rfl
  try simp only [Act.put, List.setIfInBounds_toArray, List.set_cons_zero, List.set_cons_succ]
  refine Reg.takeS 5 (v := ?_) rfl (by kernel_rfl) (fun _ _ _ h => h) rfl ?_ hSw ?_
  rotate_left
  · intro W hW
    have q : W.cell? ⟨w.heap.size, 0, none⟩ = some (.int .i64 p) := hW.2.cell 0
    go_simp
    try with_reducible rfl
  try simp only [Act.put, List.setIfInBounds_toArray, List.set_cons_zero, List.set_cons_succ]
  refine Reg.takeS 6 (v := ?_) rfl (by kernel_rfl) (fun _ _ _ h => h) rfl ?_ hSw ?_
  rotate_left
  · intro W hW
    go_simp
    try with_reducible rfl
  try simp only [Act.put, List.setIfInBounds_toArray, List.set_cons_zero, List.set_cons_succ]
  refine Reg.takeS 7 (v := ?_) rfl (by kernel_rfl) (fun _ _ _ h => h) rfl ?_ hSw ?_
  rotate_left
  · intro W hW
    have q : W.cell? ⟨w.heap.size, 1, none⟩ = some (.int .u64 x) := hW.2.cell 1
    go_simp
    try with_reducible rfl
  try simp only [Act.put, List.setIfInBounds_toArray, List.set_cons_zero, List.set_cons_succ]
  refine Reg.doS 8 rfl (by kernel_rfl) rfl (fun K hK => ?_)
  go_simp
  have hm : MapL Try.prog 3 22 W0.drew.drew d s.cs := HC.out.m.below ((Below.refl _ W0).drew.drew)
  obtain ⟨w1, hrun, hm1, hg1⟩ := hm.store kk ee mm HP.out.wf (u64_wf HX.out) HF.out HN2.out
  go_simp
  have hne : ∀ k, own3 g d v k → k ≠ w.heap.size := fun k hk => by
    have := HC.out.lt hk
    intro e
    subst e
    exact absurd KB.out (fun hb => by
      rcases hk with rfl | rfl | rfl
      · exact Blk.apart HC.out.b hb (by decide) rfl
      · exact HC.out.m.apart hb rfl
      · exact HC.out.r.apart hb rfl)
  have hF : Frm (fun k => k = d) W0.drew.drew w1 := Frm.of_grown hg1 fun i hi => by injection hi with hi; exact hi.symm
  have kb : Blk w1 g 60 (gcells s d v) := hSw.1.frm hF (fun e => HC.out.gd e.symm)
  have kx : Blk w1 w.heap.size 39 #[.int .i64 p, .int .u64 x] := hSw.2.frm hF (fun e => hne d (.inr (.inl rfl)) e.symm)
  have kr : MapL Try.prog 3 22 w1 v s.rs := (HC.out.r.below ((Below.refl _ W0).drew.drew)).frm hF (fun e => HC.out.ne e.symm)
  have HE : Hid (Cm w1 g d v ⟨s.n, s.q, s.lock, s.cs ++ [(p, x)], s.rs⟩) := ⟨kb, hm1, kr, HC.out.ne⟩
  have FE2 : Hid (Frm (own3 g d v) w w1) := FE.out.trans (((Frm.refl (own3 g d v) W0).drew.drew).trans (hF.weaken (G := own3 g d v) fun i _ e => .inr (.inl e)) (fun _ _ h => h)) (fun _ _ h => h)
  refine hK.out _ _ ⟨kb, kx⟩ ?_
  clear hK K hrun hm1 hg1 hF kb kx kr hm hne hSw
  try simp only [Act.put]
  refine Reg.done (by kernel_rfl) ?_
  go_wp2_with fail
  go_ret
  exact ⟨rfl, HE.out, FE2.out⟩

theorem commit_any (g d v : Nat) (s : St) (p x : Int) (w : World) (h : Cm w g d v s) (hp : I64 p) (hx : U64 x) (hn : s.cs.length < maxLen) : Calls Try.prog 14 #[.pointer (some ⟨g, 0, none⟩), .agg #[.int .i64 p, .int .u64 x]] w (CmPost g d v (com s p x) (.int .i64 (comE s p)) w) := by
  unfold com comE
  by_cases hi : inP s p = true
  · by_cases hl : s.lock = true
    · simp only [hi, hl, if_true]
      exact commit_8 g d v s p x w h hp hi hl
    · have hl' : s.lock = false := by simpa using hl
      cases hf : findK s.cs p with
      | none =>
        have := commit_0 g d v s p x w h hp hi hl' hf hx hn
        simpa [hi, hl'] using this
      | some c =>
        have := commit_6 g d v s p x w h hp c hi hl' hf
        simpa [hi, hl'] using this
  · have hi' : inP s p = false := by simpa using hi
    have := commit_2 g d v s p x w h hp hi'
    simpa [hi'] using this
end Go.Proofs.Ytdgekhbmcmojdaa.Cm
