/-
  The walks of lotteryref27, third part: Seed, Missing. Conditions: the object lies in memory.
-/
import Derived.Test.YtdgekhbmcmojdaaCmR
namespace Go.Proofs.Ytdgekhbmcmojdaa.Cm
open Go.RowKit Go.Proofs.Ytdgekhbmcmojdaa.Mem Go.Proofs.Ytdgekhbmcmojdaa.Dg Go.Proofs.Ytdgekhbmcmojdaa.Mp

set_option maxRecDepth 100000 in
set_option maxHeartbeats 2000000 in
theorem seedR_8 (g : Nat) (vc vr : Value) (s : St) (ts : List (Int × Int × Int)) (w : World) (h : Rf w g vc vr s ts) (hl : s.lock = false) :
    Calls Try.prog 21 #[.pointer (some ⟨g, 0, none⟩)] w (SeedPost s w) := by
  have q2 : w.cell? ⟨g, 2, none⟩ = some (.bool false) := by have := h.b.cell 2; unfold rcells at this; rw [hl] at this; exact this
  have HV : Hid (seedE s = 8) := by show _ = _; unfold seedE; rw [hl]; rfl
  have HS : Hid (seed s = 0) := by show _ = _; unfold seed; rw [HV.out]; rfl
  clear hl h
  go_enter Try.func21, Try.ntmps21
  go_wp2_with fail
  go_ret2
  exact ⟨by rw [HV.out, HS.out]; rfl, Below.refl _ _⟩

set_option maxRecDepth 100000 in
set_option maxHeartbeats 2000000 in
theorem seedR_23 (g : Nat) (vc vr : Value) (s : St) (ts : List (Int × Int × Int)) (w : World) (h : Rf w g vc vr s ts) (hl : s.lock = true) (hq : (s.rs.length : Int) < s.q) :
    Calls Try.prog 21 #[.pointer (some ⟨g, 0, none⟩)] w (SeedPost s w) := by
  have HV : Hid (seedE s = 23) := by show _ = _; unfold seedE; rw [if_pos hl, if_pos hq]
  have HS : Hid (seed s = 0) := by show _ = _; unfold seed; rw [HV.out]; rfl
  have HR := Lib.hid h
  have q2 : w.cell? ⟨g, 2, none⟩ = some (.bool true) := by have := h.b.cell 2; unfold rcells at this; rw [hl] at this; exact this
  obtain ⟨A0, c0, hv0, hs0⟩ := own_form h.orr
  have HVR := Lib.hid hv0
  have HSR := Lib.hid hs0
  have HQ4 : Hid (∀ W, Below w.heap.size w W → W.cell? ⟨g, 4, none⟩ = some (.slice A0 s.rs.length c0)) := fun W hb => by rw [← HVR.out]; exact (HR.out.b.below hb HR.out.b.lt).cell 4
  clear hl h hv0 hs0
  go_enter Try.func21, Try.ntmps21
  go_wp2_with fail
  refine Reg.start (by kernel_rfl) ?_
  refine Reg.take 0 (v := ?_) rfl (by kernel_rfl) (fun _ _ _ h => h) rfl ?_ ?_
  rotate_left
  · intro W hW
    go_simp
    try with_reducible rfl
  try simp only [Act.put, List.setIfInBounds_toArray, List.set_cons_zero, List.set_cons_succ]
  refine Reg.take 1 (v := ?_) rfl (by kernel_rfl) (fun _ _ _ h => h) rfl ?_ ?_
  rotate_left
  · intro W hW
    go_simp
    try with_reducible rfl
  try simp only [Act.put, List.setIfInBounds_toArray, List.set_cons_zero, List.set_cons_succ]
  refine Reg.take 2 (v := ?_) rfl (by kernel_rfl) (fun _ _ _ h => h) rfl ?_ ?_
  rotate_left
  · intro W hW
    go_simp
    try with_reducible rfl
  try simp only [Act.put, List.setIfInBounds_toArray, List.set_cons_zero, List.set_cons_succ]
  refine Reg.take 3 (v := ?_) rfl (by kernel_rfl) (fun _ _ _ h => h) rfl ?_ ?_
  rotate_left
  · intro W hW
    have q := HQ4.out W hW.old
    go_simp
    try with_reducible rfl
  try simp only [Act.put, List.setIfInBounds_toArray, List.set_cons_zero, List.set_cons_succ]
  refine Reg.take 4 (v := ?_) rfl (by kernel_rfl) (fun _ _ _ h => h) rfl ?_ ?_
  rotate_left
  · intro W hW
    go_simp
    try with_reducible rfl
  try simp only [Act.put, List.setIfInBounds_toArray, List.set_cons_zero, List.set_cons_succ]
  refine Reg.take 5 (v := ?_) rfl (by kernel_rfl) (fun _ _ _ h => h) rfl ?_ ?_
  rotate_left
  · intro W hW
    go_simp
    try with_reducible rfl
  try simp only [Act.put, List.setIfInBounds_toArray, List.set_cons_zero, List.set_cons_succ]
  refine Reg.take 6 (v := ?_) rfl (by kernel_rfl) (fun _ _ _ h => h) rfl ?_ ?_
  rotate_left
  · intro W hW
    go_simp
    try with_reducible rfl
  try simp only [Act.put, List.setIfInBounds_toArray, List.set_cons_zero, List.set_cons_succ]
  refine Reg.take 7 (v := ?_) rfl (by kernel_rfl) (fun _ _ _ h => h) rfl ?_ ?_
  rotate_left
  · intro W hW
    go_simp
    try with_reducible rfl
  try simp only [Act.put, List.setIfInBounds_toArray, List.set_cons_zero, List.set_cons_succ]
  refine Reg.take 8 (v := ?_) rfl (by kernel_rfl) (fun _ _ _ h => h) rfl ?_ ?_
  rotate_left
  · intro W hW
    have q : W.cell? ⟨g, 1, none⟩ = some (.int .i64 s.q) := (HR.out.b.below hW.old HR.out.b.lt).cell 1
    go_simp
    try with_reducible rfl
  try simp only [Act.put, List.setIfInBounds_toArray, List.set_cons_zero, List.set_cons_succ]
  refine Reg.take 9 (v := ?_) rfl (by kernel_rfl) (fun _ _ _ h => h) rfl ?_ ?_
  rotate_left
  · intro W hW
    go_simp
    try with_reducible rfl
  try simp only [Act.put, List.setIfInBounds_toArray, List.set_cons_zero, List.set_cons_succ]
  refine Reg.take 10 (v := ?_) rfl (by kernel_rfl) (fun _ _ _ h => h) rfl ?_ ?_
  rotate_left
  · intro W hW
    go_simp
    try with_reducible rfl
  try simp only [Act.put, List.setIfInBounds_toArray, List.set_cons_zero, List.set_cons_succ]
  refine Reg.done (by kernel_rfl) ?_
  go_wp2_with fail
  go_ret2
  exact ⟨by rw [HV.out, HS.out]; rfl, (Below.refl _ w).drew⟩

set_option maxRecDepth 100000 in
set_option maxHeartbeats 2000000 in
theorem seedR_0 (g : Nat) (vc vr : Value) (s : St) (ts : List (Int × Int × Int)) (w : World) (h : Rf w g vc vr s ts) (hok : s.ok) (hl : s.lock = true) (hq : ¬ (s.rs.length : Int) < s.q) :
    Calls Try.prog 21 #[.pointer (some ⟨g, 0, none⟩)] w (SeedPost s w) := by
  have HV : Hid (seedE s = 0) := by show _ = _; unfold seedE; rw [if_pos hl, if_neg hq]
  have HS : Hid (seed s = seedTo s s.n.toNat) := by show _ = _; unfold seed; rw [if_pos HV.out]
  have hq2 : s.q ≤ (s.rs.length : Int) := by omega
  have hn8 : s.n ≤ 8 := hok.n.2
  have HN1 := Lib.hid hok.n.1
  have hlr : s.rs.length ≤ 100 := hok.rn
  clear hq hok
  have HR := Lib.hid h
  have q2 : w.cell? ⟨g, 2, none⟩ = some (.bool true) := by have := h.b.cell 2; unfold rcells at this; rw [hl] at this; exact this
  obtain ⟨A0, c0, hv0, hs0⟩ := own_form h.orr
  have HVR := Lib.hid hv0
  have HSR := Lib.hid hs0
  have HQ4 : Hid (∀ W, Below w.heap.size w W → W.cell? ⟨g, 4, none⟩ = some (.slice A0 s.rs.length c0)) := fun W hb => by rw [← HVR.out]; exact (HR.out.b.below hb HR.out.b.lt).cell 4
  clear hl h hv0 hs0
  go_enter Try.func21, Try.ntmps21
  go_wp2_with fail
  refine Reg.start (by kernel_rfl) ?_
  refine Reg.take 0 (v := ?_) rfl (by kernel_rfl) (fun _ _ _ h => h) rfl ?_ ?_
  rotate_left
  · intro W hW
    go_simp
    try with_reducible rfl
  try simp only [Act.put, List.setIfInBounds_toArray, List.set_cons_zero, List.set_cons_succ]
  refine Reg.take 1 (v := ?_) rfl (by kernel_rfl) (fun _ _ _ h => h) rfl ?_ ?_
  rotate_left
  · intro W hW
    go_simp
    try with_reducible rfl
  try simp only [Act.put, List.setIfInBounds_toArray, List.set_cons_zero, List.set_cons_succ]
  refine Reg.take 2 (v := ?_) rfl (by kernel_rfl) (fun _ _ _ h => h) rfl ?_ ?_
  rotate_left
  · intro W hW
    go_simp
    try with_reducible rfl
  try simp only [Act.put, List.setIfInBounds_toArray, List.set_cons_zero, List.set_cons_succ]
  refine Reg.take 3 (v := ?_) rfl (by kernel_rfl) (fun _ _ _ h => h) rfl ?_ ?_
  rotate_left
  · intro W hW
    have q := HQ4.out W hW.old
    go_simp
    try with_reducible rfl
  try simp only [Act.put, List.setIfInBounds_toArray, List.set_cons_zero, List.set_cons_succ]
  refine Reg.take 4 (v := ?_) rfl (by kernel_rfl) (fun _ _ _ h => h) rfl ?_ ?_
  rotate_left
  · intro W hW
    go_simp
    try with_reducible rfl
  try simp only [Act.put, List.setIfInBounds_toArray, List.set_cons_zero, List.set_cons_succ]
  refine Reg.take 5 (v := ?_) rfl (by kernel_rfl) (fun _ _ _ h => h) rfl ?_ ?_
  rotate_left
  · intro W hW
    go_simp
    try with_reducible rfl
  try simp only [Act.put, List.setIfInBounds_toArray, List.set_cons_zero, List.set_cons_succ]
  refine Reg.take 6 (v := ?_) rfl (by kernel_rfl) (fun _ _ _ h => h) rfl ?_ ?_
  rotate_left
  · intro W hW
    go_simp
    try with_reducible rfl
  try simp only [Act.put, List.setIfInBounds_toArray, List.set_cons_zero, List.set_cons_succ]
  refine Reg.take 7 (v := ?_) rfl (by kernel_rfl) (fun _ _ _ h => h) rfl ?_ ?_
  rotate_left
  · intro W hW
    go_simp
    try with_reducible rfl
  try simp only [Act.put, List.setIfInBounds_toArray, List.set_cons_zero, List.set_cons_succ]
  refine Reg.take 8 (v := ?_) rfl (by kernel_rfl) (fun _ _ _ h => h) rfl ?_ ?_
  rotate_left
  · intro W hW
    have q : W.cell? ⟨g, 1, none⟩ = some (.int .i64 s.q) := (HR.out.b.below hW.old HR.out.b.lt).cell 1
    go_simp
    try with_reducible rfl
  try simp only [Act.put, List.setIfInBounds_toArray, List.set_cons_zero, List.set_cons_succ]
  refine Reg.take 9 (v := ?_) rfl (by kernel_rfl) (fun _ _ _ h => h) rfl ?_ ?_
  rotate_left
  · intro W hW
    go_simp
    try with_reducible rfl
  try simp only [Act.put, List.setIfInBounds_toArray, List.set_cons_zero, List.set_cons_succ]
  refine Reg.take 10 (v := ?_) rfl (by kernel_rfl) (fun _ _ _ h => h) rfl ?_ ?_
  rotate_left
  · intro W hW
    go_simp
    try with_reducible rfl
  try simp only [Act.put, List.setIfInBounds_toArray, List.set_cons_zero, List.set_cons_succ]
  refine Reg.done (by kernel_rfl) ?_
  clear q2
  obtain ⟨W1, hW1⟩ : ∃ W1, W1 = w.drew := ⟨_, rfl⟩
  have HR1 : Hid (Rf W1 g vc vr s ts) := by rw [hW1]; exact HR.out.below (Below.refl _ w).drew
  have BE : Hid (Below w.heap.size w W1) := by rw [hW1]; exact (Below.refl _ w).drew
  have HS1 : Hid (Sl W1 3 A0 s.rs.length (cells3 ts)) := by rw [hW1]; exact HSR.out
  rw [← hW1]
  clear hW1 HSR
  have q0 : W1.cell? ⟨g, 0, none⟩ = some (.int .i64 s.n) := HR1.out.b.cell 0
  have q4 : W1.cell? ⟨g, 4, none⟩ = some (.slice A0 s.rs.length c0) := HQ4.out W1 BE.out
  go_wp2_with fail
  go_loop [4, 5] (fun x i => ∃ (k : Nat) (y : Int), (k : Int) ≤ s.n ∧ i = .int .i64 ((k : Int) + 1) ∧ x = .int .u64 y ∧ Hid (y = seedTo s k)) (fun _ i => (s.n + 1 - intOf i).toNat)
  case atStart => exact ⟨0, 0, by have := HN1.out; omega, rfl, rfl, rfl⟩
  case round =>
    obtain ⟨k, y, hk, rfl, rfl, HY⟩ := hrel
    by_cases hlt : (k : Int) + 1 ≤ s.n
    · cases hf : findK s.rs ((k : Int) + 1) with
      | none =>
        have HPR : Hid (posK s.rs ((k : Int) + 1) 0 = -1) := posK_none hf 0
        have HS2 : Hid (y = seedTo s (k + 1)) := by show _ = _; rw [seedTo, show ((k + 1 : Nat) : Int) = (k : Int) + 1 from rfl, hf]; exact HY.out
        clear hf
        go_wp2_with fail
        refine (opened_any g vc vr s ts _ _ HR1.out hlr).mono ?_
        rw [HPR.out]
        rintro e w' ⟨rfl, rfl⟩
        go_wp2_with fail
        go_round
        case rel => exact ⟨k + 1, y, by omega, by go_num, rfl, HS2⟩
        case measure => simp [intOf]; omega
      | some c =>
        obtain ⟨j, hj, hjat⟩ := posK_some hf 0
        have HPR : Hid (posK s.rs ((k : Int) + 1) 0 = (j : Int)) := by show _ = _; rw [hj, Nat.zero_add]
        have hjl : j < s.rs.length := (List.getElem?_eq_some_iff.1 hjat).1
        have hjt : j < ts.length := by have := congrArg List.length HR1.out.ht; rw [List.length_map] at this; omega
        have hval : ts[j].2.1 = c := by
          have h1 : (ts.map (fun t => (t.1, t.2.1)))[j]? = s.rs[j]? := by rw [HR1.out.ht]
          rw [List.getElem?_map, List.getElem?_eq_getElem hjt, hjat] at h1
          injection h1 with h1
          exact (congrArg Prod.snd h1)
        obtain ⟨b0, o0, rfl, hc0⟩ := HS1.out.open_ (by omega)
        have hcell := hc0 (j * 3 + 1) _ (cells3_at (List.getElem?_eq_getElem hjt)).2
        rw [hval, ← Nat.add_assoc] at hcell
        have hji : (j : Int) < (s.rs.length : Int) := by omega
        have hj0 : (0 : Int) ≤ (j : Int) := by omega
        have HS2 : Hid (mixI (bits .xor .u64 y c) = seedTo s (k + 1)) := by show _ = _; rw [seedTo, show ((k + 1 : Nat) : Int) = (k : Int) + 1 from rfl, hf, HY.out]; rfl
        clear hf hj hjat hval hc0 hjl hjt
        go_wp2_with fail
        refine (opened_any g vc vr s ts _ _ HR1.out hlr).mono ?_
        rw [HPR.out]
        rintro e w' ⟨rfl, rfl⟩
        go_wp2_with fail
        refine (mixR_any _ _ (xor_is_u64 _ _)).mono ?_
        rintro e w' ⟨rfl, rfl⟩
        go_wp2_with fail
        go_round
        case rel => exact ⟨k + 1, _, by omega, by go_num, rfl, HS2⟩
        case measure => simp [intOf]; omega
    · have hkn : Hid (k = s.n.toNat) := by show _ = _; omega
      have hlt2 : s.n < (k : Int) + 1 := by omega
      clear hlt
      go_wp2_with fail
      go_ret2
      exact ⟨by rw [HV.out, HS.out, ← hkn.out, ← HY.out]; rfl, BE.out⟩

theorem seedR_any (g : Nat) (vc vr : Value) (s : St) (ts : List (Int × Int × Int)) (w : World) (h : Rf w g vc vr s ts) (hok : s.ok) : Calls Try.prog 21 #[.pointer (some ⟨g, 0, none⟩)] w (SeedPost s w) := by
  cases hl : s.lock with
  | false => exact seedR_8 g vc vr s ts w h hl
  | true =>
    by_cases hq : (s.rs.length : Int) < s.q
    · exact seedR_23 g vc vr s ts w h hl hq
    · exact seedR_0 g vc vr s ts w h hok hl hq

set_option maxRecDepth 100000 in
set_option maxHeartbeats 2000000 in
theorem missingR_true (g : Nat) (vc vr : Value) (s : St) (ts : List (Int × Int × Int)) (w : World) (h : Rf w g vc vr s ts) (hok : s.ok) (hl : s.lock = true) :
    Calls Try.prog 24 #[.pointer (some ⟨g, 0, none⟩)] w (RetInts (missing s) w) := by
  have HL := Lib.hid hl
  have hn8 : s.n ≤ 8 := hok.n.2
  have HN1 := Lib.hid hok.n.1
  have hlc : s.cs.length ≤ 100 := hok.cn
  have hlr : s.rs.length ≤ 100 := hok.rn
  have HR := Lib.hid h
  have q0 : w.cell? ⟨g, 0, none⟩ = some (.int .i64 s.n) := h.b.cell 0
  obtain ⟨i0, hi0, hz0, hz1, hz2⟩ := info_parts int_info
  clear hl h hok
  go_enter Try.func24, Try.ntmps24
  go_wp2_with fail
  go_loopw [3, 4] (fun x i wr => ∃ k : Nat, (k : Int) ≤ s.n ∧ i = .int .i64 ((k : Int) + 1) ∧ Hid (MissRel s k w x wr)) (fun _ i _ => (s.n + 1 - intOf i).toNat)
  case atStart => exact ⟨0, by have := HN1.out; omega, rfl, ⟨World.ownsRow_nil _ _ _ _, (fun j hj => by cases hj), Below.refl _ _⟩⟩
  case round =>
    obtain ⟨k, hk, rfl, HM0⟩ := hrel
    have HR1 : Hid (Rf wr g vc vr s ts) := HR.out.below HM0.out.2.2
    have r0 : wr.cell? ⟨g, 0, none⟩ = some (.int .i64 s.n) := HR1.out.b.cell 0
    have r2 : wr.cell? ⟨g, 2, none⟩ = some (.bool true) := by have := HR1.out.b.cell 2; unfold rcells at this; rw [HL.out] at this; exact this
    by_cases hlt : (k : Int) + 1 ≤ s.n
    · have hml : (missTo s k).length + 1 ≤ 9 := by have := missTo_len s k; omega
      cases hf1 : findK s.cs ((k : Int) + 1) with
      | none =>
        cases hf2 : findK s.rs ((k : Int) + 1) with
        | none =>
          have HP1 : Hid (posK s.cs ((k : Int) + 1) 0 = -1) := posK_none hf1 0
          have HP2 : Hid (posK s.rs ((k : Int) + 1) 0 = -1) := posK_none hf2 0
          have HM : Hid (miss s ((k : Int) + 1) = false) := by show _ = _; rw [miss_eq s _ true false false HL.out (by rw [hf1]; rfl) (by rw [hf2]; rfl)]; rfl
          clear hf1 hf2
          go_wp2_with fail
          refine (committed_any g vc vr s ts _ _ HR1.out hlc).mono ?_
          rw [HP1.out]
          rintro e w' ⟨rfl, rfl⟩
          have HR2 := Lib.hid (miss_no HM0.out HM.out)
          go_wp2_with fail
          go_roundw
          case rel => exact ⟨k + 1, by omega, by go_num, HR2⟩
          case measure => simp [intOf]; omega
        | some c2 =>
          have HP1 : Hid (posK s.cs ((k : Int) + 1) 0 = -1) := posK_none hf1 0
          obtain ⟨j2, hj2, _⟩ := posK_some hf2 0
          have HP2 : Hid (posK s.rs ((k : Int) + 1) 0 = (j2 : Int)) := by show _ = _; rw [hj2, Nat.zero_add]
          have tj2 : (0 : Int) ≤ (j2 : Int) := by omega
          clear hj2
          have HM : Hid (miss s ((k : Int) + 1) = false) := by show _ = _; rw [miss_eq s _ true false true HL.out (by rw [hf1]; rfl) (by rw [hf2]; rfl)]; rfl
          clear hf1 hf2
          go_wp2_with fail
          refine (committed_any g vc vr s ts _ _ HR1.out hlc).mono ?_
          rw [HP1.out]
          rintro e w' ⟨rfl, rfl⟩
          have HR2 := Lib.hid (miss_no HM0.out HM.out)
          go_wp2_with fail
          go_roundw
          case rel => exact ⟨k + 1, by omega, by go_num, HR2⟩
          case measure => simp [intOf]; omega
      | some c1 =>
        cases hf2 : findK s.rs ((k : Int) + 1) with
        | none =>
          obtain ⟨j1, hj1, _⟩ := posK_some hf1 0
          have HP1 : Hid (posK s.cs ((k : Int) + 1) 0 = (j1 : Int)) := by show _ = _; rw [hj1, Nat.zero_add]
          have tj1 : (0 : Int) ≤ (j1 : Int) := by omega
          clear hj1
          have HP2 : Hid (posK s.rs ((k : Int) + 1) 0 = -1) := posK_none hf2 0
          have HM : Hid (miss s ((k : Int) + 1) = true) := by show _ = _; rw [miss_eq s _ true true false HL.out (by rw [hf1]; rfl) (by rw [hf2]; rfl)]; rfl
          clear hf1 hf2
          go_wp2_with fail
          refine (committed_any g vc vr s ts _ _ HR1.out hlc).mono ?_
          rw [HP1.out]
          rintro e w' ⟨rfl, rfl⟩
          go_wp2_with fail
          refine (opened_any g vc vr s ts _ _ HR1.out hlr).mono ?_
          rw [HP2.out]
          rintro e w' ⟨rfl, rfl⟩
          obtain ⟨hown, hfr, hbel⟩ := HM0.out
          have K2 := Lib.hid hfr
          have K3 := Lib.hid hbel
          clear hfr hbel HM0
          go_wp2_with (at_builtin; refine wpList_append_sl _ rfl (.tmp 44) (.tmp 46) 46 rfl 3 i0 (.int .i64 0) 1 8 Try.underlying46 hi0 hz0 hz1 hz2 rfl (by decide) u3 (missTo s k).length (ints (missTo s k)) rfl (hown.alloc _) _ 1 1 (ints [(k : Int) + 1]) rfl (one_int _ _ _ rfl) (ints_one _) (by unfold maxLen; omega) (by omega) ?_; intro v2 w2 hown2 hg2 hat2; have G1 := Lib.hid hown2; have G2 := Lib.hid hg2; have G3 := Lib.hid hat2; clear hown2 hg2 hat2)
          have HR2 := Lib.hid (miss_yes K2.out K3.out HM.out G1.out G2.out G3.out)
          go_roundw
          case rel => exact ⟨k + 1, by omega, by go_num, HR2⟩
          case measure => simp [intOf]; omega
        | some c2 =>
          obtain ⟨j1, hj1, _⟩ := posK_some hf1 0
          have HP1 : Hid (posK s.cs ((k : Int) + 1) 0 = (j1 : Int)) := by show _ = _; rw [hj1, Nat.zero_add]
          have tj1 : (0 : Int) ≤ (j1 : Int) := by omega
          clear hj1
          obtain ⟨j2, hj2, _⟩ := posK_some hf2 0
          have HP2 : Hid (posK s.rs ((k : Int) + 1) 0 = (j2 : Int)) := by show _ = _; rw [hj2, Nat.zero_add]
          have tj2 : (0 : Int) ≤ (j2 : Int) := by omega
          clear hj2
          have HM : Hid (miss s ((k : Int) + 1) = false) := by show _ = _; rw [miss_eq s _ true true true HL.out (by rw [hf1]; rfl) (by rw [hf2]; rfl)]; rfl
          clear hf1 hf2
          go_wp2_with fail
          refine (committed_any g vc vr s ts _ _ HR1.out hlc).mono ?_
          rw [HP1.out]
          rintro e w' ⟨rfl, rfl⟩
          go_wp2_with fail
          refine (opened_any g vc vr s ts _ _ HR1.out hlr).mono ?_
          rw [HP2.out]
          rintro e w' ⟨rfl, rfl⟩
          have HR2 := Lib.hid (miss_no HM0.out HM.out)
          go_wp2_with fail
          go_roundw
          case rel => exact ⟨k + 1, by omega, by go_num, HR2⟩
          case measure => simp [intOf]; omega
    · have hkn : Hid (k = s.n.toNat) := by show _ = _; omega
      have hlt2 : s.n < (k : Int) + 1 := by omega
      clear hlt
      go_wp2_with fail
      go_ret
      have hm := HM0.out
      rw [hkn.out] at hm
      exact ⟨_, rfl, hm.1, hm.2.1, hm.2.2⟩

set_option maxRecDepth 100000 in
set_option maxHeartbeats 2000000 in
theorem missingR_false (g : Nat) (vc vr : Value) (s : St) (ts : List (Int × Int × Int)) (w : World) (h : Rf w g vc vr s ts) (hok : s.ok) (hl : s.lock = false) :
    Calls Try.prog 24 #[.pointer (some ⟨g, 0, none⟩)] w (RetInts (missing s) w) := by
  have HL := Lib.hid hl
  have hn8 : s.n ≤ 8 := hok.n.2
  have HN1 := Lib.hid hok.n.1
  have hlc : s.cs.length ≤ 100 := hok.cn
  have hlr : s.rs.length ≤ 100 := hok.rn
  have HR := Lib.hid h
  have q0 : w.cell? ⟨g, 0, none⟩ = some (.int .i64 s.n) := h.b.cell 0
  obtain ⟨i0, hi0, hz0, hz1, hz2⟩ := info_parts int_info
  clear hl h hok
  go_enter Try.func24, Try.ntmps24
  go_wp2_with fail
  go_loopw [3, 4] (fun x i wr => ∃ k : Nat, (k : Int) ≤ s.n ∧ i = .int .i64 ((k : Int) + 1) ∧ Hid (MissRel s k w x wr)) (fun _ i _ => (s.n + 1 - intOf i).toNat)
  case atStart => exact ⟨0, by have := HN1.out; omega, rfl, ⟨World.ownsRow_nil _ _ _ _, (fun j hj => by cases hj), Below.refl _ _⟩⟩
  case round =>
    obtain ⟨k, hk, rfl, HM0⟩ := hrel
    have HR1 : Hid (Rf wr g vc vr s ts) := HR.out.below HM0.out.2.2
    have r0 : wr.cell? ⟨g, 0, none⟩ = some (.int .i64 s.n) := HR1.out.b.cell 0
    have r2 : wr.cell? ⟨g, 2, none⟩ = some (.bool false) := by have := HR1.out.b.cell 2; unfold rcells at this; rw [HL.out] at this; exact this
    by_cases hlt : (k : Int) + 1 ≤ s.n
    · have hml : (missTo s k).length + 1 ≤ 9 := by have := missTo_len s k; omega
      cases hf1 : findK s.cs ((k : Int) + 1) with
      | none =>
        cases hf2 : findK s.rs ((k : Int) + 1) with
        | none =>
          have HP1 : Hid (posK s.cs ((k : Int) + 1) 0 = -1) := posK_none hf1 0
          have HP2 : Hid (posK s.rs ((k : Int) + 1) 0 = -1) := posK_none hf2 0
          have HM : Hid (miss s ((k : Int) + 1) = true) := by show _ = _; rw [miss_eq s _ false false false HL.out (by rw [hf1]; rfl) (by rw [hf2]; rfl)]; rfl
          clear hf1 hf2
          go_wp2_with fail
          refine (committed_any g vc vr s ts _ _ HR1.out hlc).mono ?_
          rw [HP1.out]
          rintro e w' ⟨rfl, rfl⟩
          obtain ⟨hown, hfr, hbel⟩ := HM0.out
          have K2 := Lib.hid hfr
          have K3 := Lib.hid hbel
          clear hfr hbel HM0
          go_wp2_with (at_builtin; refine wpList_append_sl _ rfl (.tmp 44) (.tmp 46) 46 rfl 3 i0 (.int .i64 0) 1 8 Try.underlying46 hi0 hz0 hz1 hz2 rfl (by decide) u3 (missTo s k).length (ints (missTo s k)) rfl (hown.alloc _) _ 1 1 (ints [(k : Int) + 1]) rfl (one_int _ _ _ rfl) (ints_one _) (by unfold maxLen; omega) (by omega) ?_; intro v2 w2 hown2 hg2 hat2; have G1 := Lib.hid hown2; have G2 := Lib.hid hg2; have G3 := Lib.hid hat2; clear hown2 hg2 hat2)
          have HR2 := Lib.hid (miss_yes K2.out K3.out HM.out G1.out G2.out G3.out)
          go_roundw
          case rel => exact ⟨k + 1, by omega, by go_num, HR2⟩
          case measure => simp [intOf]; omega
        | some c2 =>
          have HP1 : Hid (posK s.cs ((k : Int) + 1) 0 = -1) := posK_none hf1 0
          obtain ⟨j2, hj2, _⟩ := posK_some hf2 0
          have HP2 : Hid (posK s.rs ((k : Int) + 1) 0 = (j2 : Int)) := by show _ = _; rw [hj2, Nat.zero_add]
          have tj2 : (0 : Int) ≤ (j2 : Int) := by omega
          clear hj2
          have HM : Hid (miss s ((k : Int) + 1) = true) := by show _ = _; rw [miss_eq s _ false false true HL.out (by rw [hf1]; rfl) (by rw [hf2]; rfl)]; rfl
          clear hf1 hf2
          go_wp2_with fail
          refine (committed_any g vc vr s ts _ _ HR1.out hlc).mono ?_
          rw [HP1.out]
          rintro e w' ⟨rfl, rfl⟩
          obtain ⟨hown, hfr, hbel⟩ := HM0.out
          have K2 := Lib.hid hfr
          have K3 := Lib.hid hbel
          clear hfr hbel HM0
          go_wp2_with (at_builtin; refine wpList_append_sl _ rfl (.tmp 44) (.tmp 46) 46 rfl 3 i0 (.int .i64 0) 1 8 Try.underlying46 hi0 hz0 hz1 hz2 rfl (by decide) u3 (missTo s k).length (ints (missTo s k)) rfl (hown.alloc _) _ 1 1 (ints [(k : Int) + 1]) rfl (one_int _ _ _ rfl) (ints_one _) (by unfold maxLen; omega) (by omega) ?_; intro v2 w2 hown2 hg2 hat2; have G1 := Lib.hid hown2; have G2 := Lib.hid hg2; have G3 := Lib.hid hat2; clear hown2 hg2 hat2)
          have HR2 := Lib.hid (miss_yes K2.out K3.out HM.out G1.out G2.out G3.out)
          go_roundw
          case rel => exact ⟨k + 1, by omega, by go_num, HR2⟩
          case measure => simp [intOf]; omega
      | some c1 =>
        cases hf2 : findK s.rs ((k : Int) + 1) with
        | none =>
          obtain ⟨j1, hj1, _⟩ := posK_some hf1 0
          have HP1 : Hid (posK s.cs ((k : Int) + 1) 0 = (j1 : Int)) := by show _ = _; rw [hj1, Nat.zero_add]
          have tj1 : (0 : Int) ≤ (j1 : Int) := by omega
          clear hj1
          have HP2 : Hid (posK s.rs ((k : Int) + 1) 0 = -1) := posK_none hf2 0
          have HM : Hid (miss s ((k : Int) + 1) = false) := by show _ = _; rw [miss_eq s _ false true false HL.out (by rw [hf1]; rfl) (by rw [hf2]; rfl)]; rfl
          clear hf1 hf2
          go_wp2_with fail
          refine (committed_any g vc vr s ts _ _ HR1.out hlc).mono ?_
          rw [HP1.out]
          rintro e w' ⟨rfl, rfl⟩
          have HR2 := Lib.hid (miss_no HM0.out HM.out)
          go_wp2_with fail
          go_roundw
          case rel => exact ⟨k + 1, by omega, by go_num, HR2⟩
          case measure => simp [intOf]; omega
        | some c2 =>
          obtain ⟨j1, hj1, _⟩ := posK_some hf1 0
          have HP1 : Hid (posK s.cs ((k : Int) + 1) 0 = (j1 : Int)) := by show _ = _; rw [hj1, Nat.zero_add]
          have tj1 : (0 : Int) ≤ (j1 : Int) := by omega
          clear hj1
          obtain ⟨j2, hj2, _⟩ := posK_some hf2 0
          have HP2 : Hid (posK s.rs ((k : Int) + 1) 0 = (j2 : Int)) := by show _ = _; rw [hj2, Nat.zero_add]
          have tj2 : (0 : Int) ≤ (j2 : Int) := by omega
          clear hj2
          have HM : Hid (miss s ((k : Int) + 1) = false) := by show _ = _; rw [miss_eq s _ false true true HL.out (by rw [hf1]; rfl) (by rw [hf2]; rfl)]; rfl
          clear hf1 hf2
          go_wp2_with fail
          refine (committed_any g vc vr s ts _ _ HR1.out hlc).mono ?_
          rw [HP1.out]
          rintro e w' ⟨rfl, rfl⟩
          have HR2 := Lib.hid (miss_no HM0.out HM.out)
          go_wp2_with fail
          go_roundw
          case rel => exact ⟨k + 1, by omega, by go_num, HR2⟩
          case measure => simp [intOf]; omega
    · have hkn : Hid (k = s.n.toNat) := by show _ = _; omega
      have hlt2 : s.n < (k : Int) + 1 := by omega
      clear hlt
      go_wp2_with fail
      go_ret
      have hm := HM0.out
      rw [hkn.out] at hm
      exact ⟨_, rfl, hm.1, hm.2.1, hm.2.2⟩

theorem missingR_any (g : Nat) (vc vr : Value) (s : St) (ts : List (Int × Int × Int)) (w : World) (h : Rf w g vc vr s ts) (hok : s.ok) : Calls Try.prog 24 #[.pointer (some ⟨g, 0, none⟩)] w (RetInts (missing s) w) := by
  cases hl : s.lock with
  | false => exact missingR_false g vc vr s ts w h hok hl
  | true => exact missingR_true g vc vr s ts w h hok hl
end Go.Proofs.Ytdgekhbmcmojdaa.Cm
