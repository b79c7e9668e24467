/-
  The walks of package commitment, third part: Seed, Missing. Conditions: the object lies in memory.
-/
import Derived.Test.YtdgekhbmcmojdaaCmW2
import Derived.Test.YtdgekhbmcmojdaaApp
namespace Go.Proofs.Ytdgekhbmcmojdaa.Cm
open Go.RowKit Go.Proofs.Ytdgekhbmcmojdaa.Mem Go.Proofs.Ytdgekhbmcmojdaa.Dg Go.Proofs.Ytdgekhbmcmojdaa.Mp

/-- what Seed hands back. -/
def SeedPost (s : St) (w : World) (e : Ending) (w' : World) : Prop := e = .returned (.tuple #[.int .u64 (seed s), .int .i64 (seedE s)]) ∧ Below w.heap.size w w'
theorem int_info : (Try.prog.info? 3).map (fun i => (i.zero, i.size, i.bytes)) = some (some (.int .i64 0), 1, 8) := by kernel_rfl
theorem one_int (w : World) (x : Int) (t : TypeId) {g : Nat} (hg : g = w.heap.size) : Sl (w.alloc (.cells #[.int .i64 x] t)) 1 (some ⟨g, 0, none⟩) 1 (ints [x]) :=
  ⟨rfl, fun _ => ⟨g, 0, rfl, fun j u hu => by rw [hg, World.cell?_alloc_mark]; simpa [ints] using hu⟩⟩
theorem ints_append (a b : List Int) : ints (a ++ b) = ints a ++ ints b := by simp [ints]
/-- a call that hands back a new list of numbers. -/
def RetInts (xs : List Int) (w : World) (e : Ending) (w' : World) : Prop :=
  ∃ v, e = .returned v ∧ w'.ownsRow 0 3 1 v xs.length (ints xs) ∧ (∀ k, v.ownBlock = some k → w.heap.size ≤ k) ∧ Below w.heap.size w w'
def MissRel (s : St) (k : Nat) (w : World) (x : Value) (wr : World) : Prop :=
  wr.ownsRow 0 3 1 x (missTo s k).length (ints (missTo s k)) ∧ (∀ j, x.ownBlock = some j → w.heap.size ≤ j) ∧ Below w.heap.size w wr
theorem miss_no {s : St} {k : Nat} {w wr : World} {x : Value} (h : MissRel s k w x wr) (hm : miss s ((k : Int) + 1) = false) : MissRel s (k + 1) w x wr := by
  have e : missTo s (k + 1) = missTo s k := by
    rw [missTo, show ((k + 1 : Nat) : Int) = (k : Int) + 1 from rfl, hm]
    simp
  unfold MissRel
  rw [e]
  exact h
theorem miss_yes {s : St} {k : Nat} {w wr w1 : World} {x v1 : Value} {o : Obj} (h2 : ∀ j, x.ownBlock = some j → w.heap.size ≤ j) (h3 : Below w.heap.size w wr) (hm : miss s ((k : Int) + 1) = true)
    (g1 : w1.ownsRow 0 3 1 v1 ((missTo s k).length + 1) (ints (missTo s k) ++ ints [(k : Int) + 1])) (g2 : (wr.alloc o).grownBy w1 x.ownBlock) (g3 : v1.ownBlock = x.ownBlock ∨ v1.ownBlock = some (wr.alloc o).heap.size) : MissRel s (k + 1) w v1 w1 := by
  have e : missTo s (k + 1) = missTo s k ++ [(k : Int) + 1] := by
    rw [missTo, show ((k + 1 : Nat) : Int) = (k : Int) + 1 from rfl, hm]
    rfl
  unfold MissRel
  rw [e, List.length_append, ints_append]
  refine ⟨g1, fun j hj => ?_, (h3.alloc h3.size o).grown g2 (by have := h3.size; simp; omega) (fun j hj => h2 j hj)⟩
  rcases g3 with e | e
  · rw [e] at hj; exact h2 j hj
  · rw [e] at hj
    injection hj with hj
    have := h3.size
    simp at hj
    omega
theorem miss_eq (s : St) (p : Int) (b c o : Bool) (hb : s.lock = b) (hc : (findK s.cs p).isSome = c) (ho : (findK s.rs p).isSome = o) : miss s p = if b = true then c && !o else !c := by
  unfold miss
  rw [hb, hc, ho]

set_option maxRecDepth 100000 in
set_option maxHeartbeats 2000000 in
theorem seed_8 (g d v : Nat) (s : St) (w : World) (h : Cm w g d v s) (hl : s.lock = false) :
    Calls Try.prog 20 #[.pointer (some ⟨g, 0, none⟩)] w (SeedPost s w) := by
  have q2 : w.cell? ⟨g, 2, none⟩ = some (.int .i64 0) := by have := h.b.cell 2; unfold gcells lk at this; rw [hl] at this; exact this
  have HV : Hid (seedE s = 8) := by show _ = _; unfold seedE; rw [hl]; rfl
  have HS : Hid (seed s = 0) := by show _ = _; unfold seed; rw [HV.out]; rfl
  clear hl h
  go_enter Try.func20, Try.ntmps20
  go_wp2_with fail
  go_ret2
  exact ⟨by rw [HV.out, HS.out]; rfl, Below.refl _ _⟩

set_option maxRecDepth 100000 in
set_option maxHeartbeats 2000000 in
theorem seed_23 (g d v : Nat) (s : St) (w : World) (h : Cm w g d v s) (hl : s.lock = true) (hq : (s.rs.length : Int) < s.q) :
    Calls Try.prog 20 #[.pointer (some ⟨g, 0, none⟩)] w (SeedPost s w) := by
  have HV : Hid (seedE s = 23) := by show _ = _; unfold seedE; rw [if_pos hl, if_pos hq]
  have HS : Hid (seed s = 0) := by show _ = _; unfold seed; rw [HV.out]; rfl
  have HC_0 : Hid (Cm w g d v s) := h
  have q2 : w.cell? ⟨g, 2, none⟩ = some (.int .i64 1) := by have := HC_0.out.b.cell 2; unfold gcells lk at this; rw [hl] at this; exact this
  clear hl h
  go_enter Try.func20, Try.ntmps20
  go_wp2_with fail
  have F : Below w.heap.size w w.drew := (Below.refl _ _).drew
  have HC_1 := Lib.hid (HC_0.out.below F)
  clear HC_0
  clear F
  refine Reg.start (by kernel_rfl) ?_
  refine Reg.take 0 (v := ?_) rfl (by kernel_rfl) (fun _ _ _ h => h) rfl ?_ ?_
  rotate_left
  · intro W hW
    go_simp
    try with_reducible rfl
  try simp only [Act.put, List.setIfInBounds_toArray, List.set_cons_zero, List.set_cons_succ]
  refine Reg.take 1 (v := ?_) rfl (by kernel_rfl) (fun _ _ _ h => h) rfl ?_ ?_
  rotate_left
  · intro W hW
    go_simp
    try with_reducible rfl
  try simp only [Act.put, List.setIfInBounds_toArray, List.set_cons_zero, List.set_cons_succ]
  refine Reg.take 2 (v := ?_) rfl (by kernel_rfl) (fun _ _ _ h => h) rfl ?_ ?_
  rotate_left
  · intro W hW
    go_simp
    try with_reducible rfl
  try simp only [Act.put, List.setIfInBounds_toArray, List.set_cons_zero, List.set_cons_succ]
  refine Reg.take 3 (v := ?_) rfl (by kernel_rfl) (fun _ _ _ h => h) rfl ?_ ?_
  rotate_left
  · intro W hW
    have q : W.cell? ⟨g, 4, none⟩ = some (.map (some v)) := (HC_1.out.b.below hW.all HC_1.out.b.lt).cell 4
    go_simp
    try with_reducible rfl
  try simp only [Act.put, List.setIfInBounds_toArray, List.set_cons_zero, List.set_cons_succ]
  refine Reg.take 4 (v := ?_) rfl (by kernel_rfl) (fun _ _ _ h => h) rfl ?_ ?_
  rotate_left
  · intro W hW
    refine exec_len _ _ _ _ _ _ _ ?_ (HC_1.out.r.below hW.all)
    rfl
  try simp only [Act.put, List.setIfInBounds_toArray, List.set_cons_zero, List.set_cons_succ]
  refine Reg.take 5 (v := ?_) rfl (by kernel_rfl) (fun _ _ _ h => h) rfl ?_ ?_
  rotate_left
  · intro W hW
    go_simp
    try with_reducible rfl
  try simp only [Act.put, List.setIfInBounds_toArray, List.set_cons_zero, List.set_cons_succ]
  refine Reg.take 6 (v := ?_) rfl (by kernel_rfl) (fun _ _ _ h => h) rfl ?_ ?_
  rotate_left
  · intro W hW
    go_simp
    try with_reducible rfl
  try simp only [Act.put, List.setIfInBounds_toArray, List.set_cons_zero, List.set_cons_succ]
  refine Reg.take 7 (v := ?_) rfl (by kernel_rfl) (fun _ _ _ h => h) rfl ?_ ?_
  rotate_left
  · intro W hW
    go_simp
    try with_reducible rfl
  try simp only [Act.put, List.setIfInBounds_toArray, List.set_cons_zero, List.set_cons_succ]
  refine Reg.take 8 (v := ?_) rfl (by kernel_rfl) (fun _ _ _ h => h) rfl ?_ ?_
  rotate_left
  · intro W hW
    have q : W.cell? ⟨g, 1, none⟩ = some (.int .i64 s.q) := (HC_1.out.b.below hW.all HC_1.out.b.lt).cell 1
    go_simp
    try with_reducible rfl
  try simp only [Act.put, List.setIfInBounds_toArray, List.set_cons_zero, List.set_cons_succ]
  refine Reg.take 9 (v := ?_) rfl (by kernel_rfl) (fun _ _ _ h => h) rfl ?_ ?_
  rotate_left
  · intro W hW
    go_simp
    try with_reducible rfl
  try simp only [Act.put, List.setIfInBounds_toArray, List.set_cons_zero, List.set_cons_succ]
  refine Reg.done (by kernel_rfl) ?_
  go_wp2_with fail
  go_ret2
  exact ⟨by rw [HV.out, HS.out]; rfl, (Below.refl _ w).drew⟩

set_option maxRecDepth 100000 in
set_option maxHeartbeats 2000000 in
theorem seed_0 (g d v : Nat) (s : St) (w : World) (h : Cm w g d v s) (hok : s.ok) (hl : s.lock = true) (hq : ¬ (s.rs.length : Int) < s.q) :
    Calls Try.prog 20 #[.pointer (some ⟨g, 0, none⟩)] w (SeedPost s w) := by
  have HV : Hid (seedE s = 0) := by show _ = _; unfold seedE; rw [if_pos hl, if_neg hq]
  have HS : Hid (seed s = seedTo s s.n.toNat) := by show _ = _; unfold seed; rw [if_pos HV.out]
  have hq2 : s.q ≤ (s.rs.length : Int) := by omega
  have hn8 : s.n ≤ 8 := hok.n.2
  have HN1 := Lib.hid hok.n.1
  have HRS := Lib.hid hok.rs
  clear hq hok
  have HC_0 : Hid (Cm w g d v s) := h
  have q2 : w.cell? ⟨g, 2, none⟩ = some (.int .i64 1) := by have := HC_0.out.b.cell 2; unfold gcells lk at this; rw [hl] at this; exact this
  clear hl h
  go_enter Try.func20, Try.ntmps20
  go_wp2_with fail
  have F : Below w.heap.size w w.drew := (Below.refl _ _).drew
  have HC_1 := Lib.hid (HC_0.out.below F)
  clear HC_0
  clear F
  refine Reg.start (by kernel_rfl) ?_
  refine Reg.take 0 (v := ?_) rfl (by kernel_rfl) (fun _ _ _ h => h) rfl ?_ ?_
  rotate_left
  · intro W hW
    go_simp
    try with_reducible rfl
  try simp only [Act.put, List.setIfInBounds_toArray, List.set_cons_zero, List.set_cons_succ]
  refine Reg.take 1 (v := ?_) rfl (by kernel_rfl) (fun _ _ _ h => h) rfl ?_ ?_
  rotate_left
  · intro W hW
    go_simp
    try with_reducible rfl
  try simp only [Act.put, List.setIfInBounds_toArray, List.set_cons_zero, List.set_cons_succ]
  refine Reg.take 2 (v := ?_) rfl (by kernel_rfl) (fun _ _ _ h => h) rfl ?_ ?_
  rotate_left
  · intro W hW
    go_simp
    try with_reducible rfl
  try simp only [Act.put, List.setIfInBounds_toArray, List.set_cons_zero, List.set_cons_succ]
  refine Reg.take 3 (v := ?_) rfl (by kernel_rfl) (fun _ _ _ h => h) rfl ?_ ?_
  rotate_left
  · intro W hW
    have q : W.cell? ⟨g, 4, none⟩ = some (.map (some v)) := (HC_1.out.b.below hW.all HC_1.out.b.lt).cell 4
    go_simp
    try with_reducible rfl
  try simp only [Act.put, List.setIfInBounds_toArray, List.set_cons_zero, List.set_cons_succ]
  refine Reg.take 4 (v := ?_) rfl (by kernel_rfl) (fun _ _ _ h => h) rfl ?_ ?_
  rotate_left
  · intro W hW
    refine exec_len _ _ _ _ _ _ _ ?_ (HC_1.out.r.below hW.all)
    rfl
  try simp only [Act.put, List.setIfInBounds_toArray, List.set_cons_zero, List.set_cons_succ]
  refine Reg.take 5 (v := ?_) rfl (by kernel_rfl) (fun _ _ _ h => h) rfl ?_ ?_
  rotate_left
  · intro W hW
    go_simp
    try with_reducible rfl
  try simp only [Act.put, List.setIfInBounds_toArray, List.set_cons_zero, List.set_cons_succ]
  refine Reg.take 6 (v := ?_) rfl (by kernel_rfl) (fun _ _ _ h => h) rfl ?_ ?_
  rotate_left
  · intro W hW
    go_simp
    try with_reducible rfl
  try simp only [Act.put, List.setIfInBounds_toArray, List.set_cons_zero, List.set_cons_succ]
  refine Reg.take 7 (v := ?_) rfl (by kernel_rfl) (fun _ _ _ h => h) rfl ?_ ?_
  rotate_left
  · intro W hW
    go_simp
    try with_reducible rfl
  try simp only [Act.put, List.setIfInBounds_toArray, List.set_cons_zero, List.set_cons_succ]
  refine Reg.take 8 (v := ?_) rfl (by kernel_rfl) (fun _ _ _ h => h) rfl ?_ ?_
  rotate_left
  · intro W hW
    have q : W.cell? ⟨g, 1, none⟩ = some (.int .i64 s.q) := (HC_1.out.b.below hW.all HC_1.out.b.lt).cell 1
    go_simp
    try with_reducible rfl
  try simp only [Act.put, List.setIfInBounds_toArray, List.set_cons_zero, List.set_cons_succ]
  refine Reg.take 9 (v := ?_) rfl (by kernel_rfl) (fun _ _ _ h => h) rfl ?_ ?_
  rotate_left
  · intro W hW
    go_simp
    try with_reducible rfl
  try simp only [Act.put, List.setIfInBounds_toArray, List.set_cons_zero, List.set_cons_succ]
  refine Reg.done (by kernel_rfl) ?_
  clear q2
  obtain ⟨W1, hW1⟩ : ∃ W1, W1 = w.drew := ⟨_, rfl⟩
  have HC1 : Hid (Cm W1 g d v s) := by rw [hW1]; exact HC_1.out
  have BE : Hid (Below w.heap.size w W1) := by rw [hW1]; exact (Below.refl _ w).drew
  rw [← hW1]
  clear hW1 HC_1
  have q0 : W1.cell? ⟨g, 0, none⟩ = some (.int .i64 s.n) := HC1.out.b.cell 0
  have q4 : W1.cell? ⟨g, 4, none⟩ = some (.map (some v)) := HC1.out.b.cell 4
  go_wp2_with fail
  go_loop [4, 5] (fun x i => ∃ (k : Nat) (y : Int), (k : Int) ≤ s.n ∧ i = .int .i64 ((k : Int) + 1) ∧ x = .int .u64 y ∧ Hid (y = seedTo s k)) (fun _ i => (s.n + 1 - intOf i).toNat)
  case atStart => exact ⟨0, 0, by have := HN1.out; omega, rfl, rfl, rfl⟩
  case round =>
    obtain ⟨k, y, hk, rfl, rfl, HY⟩ := hrel
    by_cases hlt : (k : Int) + 1 ≤ s.n
    · have hwf : (Lit.int .i64 ((k : Int) + 1)).wf = true := wf_i64 (by omega) (by omega)
      cases hf : findK s.rs ((k : Int) + 1) with
      | none =>
        have lkp := look_none HC1.out.r hwf hf
        have HS1 : Hid (y = seedTo s (k + 1)) := by show _ = _; rw [seedTo, show ((k + 1 : Nat) : Int) = (k : Int) + 1 from rfl, hf]; exact HY.out
        clear hf hwf
        go_wp2_with fail
        go_round
        case rel => exact ⟨k + 1, y, by omega, by go_num, rfl, HS1⟩
        case measure => simp [intOf]; omega
      | some c =>
        have lkp := look_some HC1.out.r hwf hf
        have HS1 : Hid (mixI (bits .xor .u64 y c) = seedTo s (k + 1)) := by show _ = _; rw [seedTo, show ((k + 1 : Nat) : Int) = (k : Int) + 1 from rfl, hf, HY.out]; rfl
        clear hf hwf
        go_wp2_with fail
        refine (mix_any _ _ (xor_is_u64 _ _)).mono ?_
        rintro e w' ⟨rfl, rfl⟩
        go_wp2_with fail
        go_round
        case rel => exact ⟨k + 1, _, by omega, by go_num, rfl, HS1⟩
        case measure => simp [intOf]; omega
    · have hkn : Hid (k = s.n.toNat) := by show _ = _; omega
      have hlt2 : s.n < (k : Int) + 1 := by omega
      clear hlt
      go_wp2_with fail
      go_ret2
      exact ⟨by rw [HV.out, HS.out, ← hkn.out, ← HY.out]; rfl, BE.out⟩

theorem seed_any (g d v : Nat) (s : St) (w : World) (h : Cm w g d v s) (hok : s.ok) : Calls Try.prog 20 #[.pointer (some ⟨g, 0, none⟩)] w (SeedPost s w) := by
  cases hl : s.lock with
  | false => exact seed_8 g d v s w h hl
  | true =>
    by_cases hq : (s.rs.length : Int) < s.q
    · exact seed_23 g d v s w h hl hq
    · exact seed_0 g d v s w h hok hl hq

set_option maxRecDepth 100000 in
set_option maxHeartbeats 2000000 in
theorem missing_true (g d v : Nat) (s : St) (w : World) (h : Cm w g d v s) (hok : s.ok) (hl : s.lock = true) :
    Calls Try.prog 23 #[.pointer (some ⟨g, 0, none⟩)] w (RetInts (missing s) w) := by
  have HL := Lib.hid hl
  have hn8 : s.n ≤ 8 := hok.n.2
  have HN1 := Lib.hid hok.n.1
  have HC := Lib.hid h
  have q0 : w.cell? ⟨g, 0, none⟩ = some (.int .i64 s.n) := h.b.cell 0
  obtain ⟨i0, hi0, hz0, hz1, hz2⟩ := info_parts int_info
  clear hl h hok
  go_enter Try.func23, Try.ntmps23
  go_wp2_with fail
  go_loopw [3, 4] (fun x i wr => ∃ k : Nat, (k : Int) ≤ s.n ∧ i = .int .i64 ((k : Int) + 1) ∧ Hid (MissRel s k w x wr)) (fun _ i _ => (s.n + 1 - intOf i).toNat)
  case atStart => exact ⟨0, by have := HN1.out; omega, rfl, ⟨World.ownsRow_nil _ _ _ _, (fun j hj => by cases hj), Below.refl _ _⟩⟩
  case round =>
    obtain ⟨k, hk, rfl, HR⟩ := hrel
    have HC1 : Hid (Cm wr g d v s) := HC.out.below HR.out.2.2
    have r0 : wr.cell? ⟨g, 0, none⟩ = some (.int .i64 s.n) := HC1.out.b.cell 0
    have r2 : wr.cell? ⟨g, 2, none⟩ = some (.int .i64 1) := by have := HC1.out.b.cell 2; unfold gcells lk at this; rw [HL.out] at this; exact this
    have r3 : wr.cell? ⟨g, 3, none⟩ = some (.map (some d)) := HC1.out.b.cell 3
    have r4 : wr.cell? ⟨g, 4, none⟩ = some (.map (some v)) := HC1.out.b.cell 4
    by_cases hlt : (k : Int) + 1 ≤ s.n
    · have hwf : (Lit.int .i64 ((k : Int) + 1)).wf = true := wf_i64 (by omega) (by omega)
      have hml : (missTo s k).length + 1 ≤ 9 := by have := missTo_len s k; omega
      cases hf1 : findK s.cs ((k : Int) + 1) with
      | none =>
        cases hf2 : findK s.rs ((k : Int) + 1) with
        | none =>
          have lk1 := look_none HC1.out.m hwf hf1
          have lk2 := look_none HC1.out.r hwf hf2
          have HM : Hid (miss s ((k : Int) + 1) = false) := by show _ = _; rw [miss_eq s _ true false false HL.out (by rw [hf1]; rfl) (by rw [hf2]; rfl)]; rfl
          clear hf1 hf2 hwf
          have HR2 := Lib.hid (miss_no HR.out HM.out)
          go_wp2_with fail
          go_roundw
          case rel => exact ⟨k + 1, by omega, by go_num, HR2⟩
          case measure => simp [intOf]; omega
        | some c2 =>
          have lk1 := look_none HC1.out.m hwf hf1
          have lk2 := look_some HC1.out.r hwf hf2
          have HM : Hid (miss s ((k : Int) + 1) = false) := by show _ = _; rw [miss_eq s _ true false true HL.out (by rw [hf1]; rfl) (by rw [hf2]; rfl)]; rfl
          clear hf1 hf2 hwf
          have HR2 := Lib.hid (miss_no HR.out HM.out)
          go_wp2_with fail
          go_roundw
          case rel => exact ⟨k + 1, by omega, by go_num, HR2⟩
          case measure => simp [intOf]; omega
      | some c1 =>
        cases hf2 : findK s.rs ((k : Int) + 1) with
        | none =>
          have lk1 := look_some HC1.out.m hwf hf1
          have lk2 := look_none HC1.out.r hwf hf2
          have HM : Hid (miss s ((k : Int) + 1) = true) := by show _ = _; rw [miss_eq s _ true true false HL.out (by rw [hf1]; rfl) (by rw [hf2]; rfl)]; rfl
          clear hf1 hf2 hwf
          obtain ⟨hown, hfr, hbel⟩ := HR.out
          have K2 := Lib.hid hfr
          have K3 := Lib.hid hbel
          clear hfr hbel HR
          go_wp2_with (at_builtin; refine wpList_append_sl _ rfl (.tmp 60) (.tmp 62) 46 rfl 3 i0 (.int .i64 0) 1 8 Try.underlying46 hi0 hz0 hz1 hz2 rfl (by decide) u3 (missTo s k).length (ints (missTo s k)) rfl (hown.alloc _) _ 1 1 (ints [(k : Int) + 1]) rfl (one_int _ _ _ rfl) (ints_one _) (by unfold maxLen; omega) (by omega) ?_; intro v2 w2 hown2 hg2 hat2; have G1 := Lib.hid hown2; have G2 := Lib.hid hg2; have G3 := Lib.hid hat2; clear hown2 hg2 hat2)
          have HR2 := Lib.hid (miss_yes K2.out K3.out HM.out G1.out G2.out G3.out)
          go_roundw
          case rel => exact ⟨k + 1, by omega, by go_num, HR2⟩
          case measure => simp [intOf]; omega
        | some c2 =>
          have lk1 := look_some HC1.out.m hwf hf1
          have lk2 := look_some HC1.out.r hwf hf2
          have HM : Hid (miss s ((k : Int) + 1) = false) := by show _ = _; rw [miss_eq s _ true true true HL.out (by rw [hf1]; rfl) (by rw [hf2]; rfl)]; rfl
          clear hf1 hf2 hwf
          have HR2 := Lib.hid (miss_no HR.out HM.out)
          go_wp2_with fail
          go_roundw
          case rel => exact ⟨k + 1, by omega, by go_num, HR2⟩
          case measure => simp [intOf]; omega
    · have hkn : Hid (k = s.n.toNat) := by show _ = _; omega
      have hlt2 : s.n < (k : Int) + 1 := by omega
      clear hlt
      go_wp2_with fail
      go_ret
      have hm := HR.out
      rw [hkn.out] at hm
      exact ⟨_, rfl, hm.1, hm.2.1, hm.2.2⟩

set_option maxRecDepth 100000 in
set_option maxHeartbeats 2000000 in
theorem missing_false (g d v : Nat) (s : St) (w : World) (h : Cm w g d v s) (hok : s.ok) (hl : s.lock = false) :
    Calls Try.prog 23 #[.pointer (some ⟨g, 0, none⟩)] w (RetInts (missing s) w) := by
  have HL := Lib.hid hl
  have hn8 : s.n ≤ 8 := hok.n.2
  have HN1 := Lib.hid hok.n.1
  have HC := Lib.hid h
  have q0 : w.cell? ⟨g, 0, none⟩ = some (.int .i64 s.n) := h.b.cell 0
  obtain ⟨i0, hi0, hz0, hz1, hz2⟩ := info_parts int_info
  clear hl h hok
  go_enter Try.func23, Try.ntmps23
  go_wp2_with fail
  go_loopw [3, 4] (fun x i wr => ∃ k : Nat, (k : Int) ≤ s.n ∧ i = .int .i64 ((k : Int) + 1) ∧ Hid (MissRel s k w x wr)) (fun _ i _ => (s.n + 1 - intOf i).toNat)
  case atStart => exact ⟨0, by have := HN1.out; omega, rfl, ⟨World.ownsRow_nil _ _ _ _, (fun j hj => by cases hj), Below.refl _ _⟩⟩
  case round =>
    obtain ⟨k, hk, rfl, HR⟩ := hrel
    have HC1 : Hid (Cm wr g d v s) := HC.out.below HR.out.2.2
    have r0 : wr.cell? ⟨g, 0, none⟩ = some (.int .i64 s.n) := HC1.out.b.cell 0
    have r2 : wr.cell? ⟨g, 2, none⟩ = some (.int .i64 0) := by have := HC1.out.b.cell 2; unfold gcells lk at this; rw [HL.out] at this; exact this
    have r3 : wr.cell? ⟨g, 3, none⟩ = some (.map (some d)) := HC1.out.b.cell 3
    have r4 : wr.cell? ⟨g, 4, none⟩ = some (.map (some v)) := HC1.out.b.cell 4
    by_cases hlt : (k : Int) + 1 ≤ s.n
    · have hwf : (Lit.int .i64 ((k : Int) + 1)).wf = true := wf_i64 (by omega) (by omega)
      have hml : (missTo s k).length + 1 ≤ 9 := by have := missTo_len s k; omega
      cases hf1 : findK s.cs ((k : Int) + 1) with
      | none =>
        cases hf2 : findK s.rs ((k : Int) + 1) with
        | none =>
          have lk1 := look_none HC1.out.m hwf hf1
          have lk2 := look_none HC1.out.r hwf hf2
          have HM : Hid (miss s ((k : Int) + 1) = true) := by show _ = _; rw [miss_eq s _ false false false HL.out (by rw [hf1]; rfl) (by rw [hf2]; rfl)]; rfl
          clear hf1 hf2 hwf
          obtain ⟨hown, hfr, hbel⟩ := HR.out
          have K2 := Lib.hid hfr
          have K3 := Lib.hid hbel
          clear hfr hbel HR
          go_wp2_with (at_builtin; refine wpList_append_sl _ rfl (.tmp 60) (.tmp 62) 46 rfl 3 i0 (.int .i64 0) 1 8 Try.underlying46 hi0 hz0 hz1 hz2 rfl (by decide) u3 (missTo s k).length (ints (missTo s k)) rfl (hown.alloc _) _ 1 1 (ints [(k : Int) + 1]) rfl (one_int _ _ _ rfl) (ints_one _) (by unfold maxLen; omega) (by omega) ?_; intro v2 w2 hown2 hg2 hat2; have G1 := Lib.hid hown2; have G2 := Lib.hid hg2; have G3 := Lib.hid hat2; clear hown2 hg2 hat2)
          have HR2 := Lib.hid (miss_yes K2.out K3.out HM.out G1.out G2.out G3.out)
          go_roundw
          case rel => exact ⟨k + 1, by omega, by go_num, HR2⟩
          case measure => simp [intOf]; omega
        | some c2 =>
          have lk1 := look_none HC1.out.m hwf hf1
          have lk2 := look_some HC1.out.r hwf hf2
          have HM : Hid (miss s ((k : Int) + 1) = true) := by show _ = _; rw [miss_eq s _ false false true HL.out (by rw [hf1]; rfl) (by rw [hf2]; rfl)]; rfl
          clear hf1 hf2 hwf
          obtain ⟨hown, hfr, hbel⟩ := HR.out
          have K2 := Lib.hid hfr
          have K3 := Lib.hid hbel
          clear hfr hbel HR
          go_wp2_with (at_builtin; refine wpList_append_sl _ rfl (.tmp 60) (.tmp 62) 46 rfl 3 i0 (.int .i64 0) 1 8 Try.underlying46 hi0 hz0 hz1 hz2 rfl (by decide) u3 (missTo s k).length (ints (missTo s k)) rfl (hown.alloc _) _ 1 1 (ints [(k : Int) + 1]) rfl (one_int _ _ _ rfl) (ints_one _) (by unfold maxLen; omega) (by omega) ?_; intro v2 w2 hown2 hg2 hat2; have G1 := Lib.hid hown2; have G2 := Lib.hid hg2; have G3 := Lib.hid hat2; clear hown2 hg2 hat2)
          have HR2 := Lib.hid (miss_yes K2.out K3.out HM.out G1.out G2.out G3.out)
          go_roundw
          case rel => exact ⟨k + 1, by omega, by go_num, HR2⟩
          case measure => simp [intOf]; omega
      | some c1 =>
        cases hf2 : findK s.rs ((k : Int) + 1) with
        | none =>
          have lk1 := look_some HC1.out.m hwf hf1
          have lk2 := look_none HC1.out.r hwf hf2
          have HM : Hid (miss s ((k : Int) + 1) = false) := by show _ = _; rw [miss_eq s _ false true false HL.out (by rw [hf1]; rfl) (by rw [hf2]; rfl)]; rfl
          clear hf1 hf2 hwf
          have HR2 := Lib.hid (miss_no HR.out HM.out)
          go_wp2_with fail
          go_roundw
          case rel => exact ⟨k + 1, by omega, by go_num, HR2⟩
          case measure => simp [intOf]; omega
        | some c2 =>
          have lk1 := look_some HC1.out.m hwf hf1
          have lk2 := look_some HC1.out.r hwf hf2
          have HM : Hid (miss s ((k : Int) + 1) = false) := by show _ = _; rw [miss_eq s _ false true true HL.out (by rw [hf1]; rfl) (by rw [hf2]; rfl)]; rfl
          clear hf1 hf2 hwf
          have HR2 := Lib.hid (miss_no HR.out HM.out)
          go_wp2_with fail
          go_roundw
          case rel => exact ⟨k + 1, by omega, by go_num, HR2⟩
          case measure => simp [intOf]; omega
    · have hkn : Hid (k = s.n.toNat) := by show _ = _; omega
      have hlt2 : s.n < (k : Int) + 1 := by omega
      clear hlt
      go_wp2_with fail
      go_ret
      have hm := HR.out
      rw [hkn.out] at hm
      exact ⟨_, rfl, hm.1, hm.2.1, hm.2.2⟩

theorem missing_any (g d v : Nat) (s : St) (w : World) (h : Cm w g d v s) (hok : s.ok) : Calls Try.prog 23 #[.pointer (some ⟨g, 0, none⟩)] w (RetInts (missing s) w) := by
  cases hl : s.lock with
  | false => exact missing_false g d v s w h hok hl
  | true => exact missing_true g d v s w h hok hl
end Go.Proofs.Ytdgekhbmcmojdaa.Cm
