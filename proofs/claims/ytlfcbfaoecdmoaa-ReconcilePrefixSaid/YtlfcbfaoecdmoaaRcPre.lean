/-
  The walk of ReconcilePrefix: it returns true, and changes nothing that was there. Conditions: the lists of records lie in memory.
-/
import Derived.Test.YtlfcbfaoecdmoaaRcAwake
import Derived.Test.YtlfcbfaoecdmoaaRcFew2
import Derived.Test.YtlfcbfaoecdmoaaRcPreP
import Derived.Test.YtlfcbfaoecdmoaaReg
namespace Go.Proofs.Ytlfcbfaoecdmoaa.Rc
open Go.RowKit Go.Proofs.Ytlfcbfaoecdmoaa.Mem Go.Proofs.Ytlfcbfaoecdmoaa.Eqs Go.Proofs.Ytlfcbfaoecdmoaa.Jr
attribute [local go_sem ↓] exec_cut exec_load_rec

theorem rec_size36 : (Try.prog.info? 48).map (·.size) = some 12 := by kernel_rfl
/-- what stands by a world: the two lists, and the finding in its block. -/
structure Pre (w W : World) (A B : Option Addr) (rs ss : List Rec) (g7 : Nat) (f1 f2 : Int) : Prop where
  a : RecSl W A rs
  b : RecSl W B ss
  f : Blk W g7 40 #[.int .i64 f1, .int .i64 f2]
  old : Below w.heap.size w W
theorem Pre.further {w W W' : World} {A B : Option Addr} {rs ss : List Rec} {g7 : Nat} {f1 f2 : Int} (h : Pre w W A B rs ss g7 f1 f2) (hb : Below W.heap.size W W') : Pre w W' A B rs ss g7 f1 f2 :=
  ⟨h.a.below hb (Nat.le_refl _), h.b.below hb (Nat.le_refl _), h.f.below hb h.f.lt, h.old.trans (hb.mono h.old.size)⟩
theorem Pre.frm {w W W' : World} {A B : Option Addr} {rs ss : List Rec} {g7 : Nat} {f1 f2 : Int} {F : Nat → Prop} (h : Pre w W A B rs ss g7 f1 f2) (hf : Frm F W W') (hn : ∀ k, k < W.heap.size → F k → False) : Pre w W' A B rs ss g7 f1 f2 :=
  h.further (hf.below (Nat.le_refl _) fun i hi g => hn i hi g)

set_option maxRecDepth 100000 in
set_option maxHeartbeats 8000000 in
theorem prefix_0 (rs ss : List Rec) (A B : Option Addr) (n m ca cb z : Nat) (w : World) (hn : rs.length = n) (hm : ss.length = m) (ha : RecSl w A rs) (hb : RecSl w B ss) (h1 : n ≤ 30) (h2 : m ≤ 30) (hca : n ≤ ca) (hz : z < 256) (hv : loc rs ss = (-1, 0)) (hnm : n = m) (hst : SameTo rs ss n) (CY : Hid (∀ W, RecSl W A rs → RecSl W B ss → Calls Try.prog 19 #[.slice A n ca] W fun e w' => e = .returned (.bool true) ∧ W = w') ∧ Hid (∀ W, RecSl W A rs → RecSl W B ss → Calls Try.prog 19 #[.slice B m cb] W fun e w' => e = .returned (.bool true) ∧ W = w')) :
    Calls Try.prog 8 #[.slice A n ca, .slice B m cb, .int .u8 (z : Int)] w fun e w' => e = .returned (.bool true) ∧ Below w.heap.size w w' := by
  have HN := Lib.hid hn
  have HM := Lib.hid hm
  have HA := Lib.hid ha
  have HB := Lib.hid hb
  have HV := Lib.hid hv
  have HST := Lib.hid hst
  subst hnm
  have hmod : z % (n + 1) < n + 1 := Nat.mod_lt _ (by omega)
  have hmi : (z : Int) % ((n : Int) + 1) = ((z % (n + 1) : Nat) : Int) := by rw [Int.natCast_emod, Int.natCast_add]; rfl
  obtain ⟨j, hj⟩ : ∃ j, j = z % (n + 1) := ⟨_, rfl⟩
  rw [← hj] at hmod hmi
  obtain ⟨CA, CB⟩ := CY
  clear hn hm ha hb hv hst hj
  go_enter Try.func8, Try.ntmps8
  go_wp2_with fail
  refine (CA.out _ HA.out HB.out).mono ?_
  rintro e w' ⟨rfl, rfl⟩
  go_wp2_with fail
  refine (CB.out _ HA.out HB.out).mono ?_
  rintro e w' ⟨rfl, rfl⟩
  go_wp2_with fail
  refine (locate_v rs ss (-1) 0 HV.out A B n n ca cb _ HN.out HM.out HA.out HB.out (by omega) (by omega)).mono ?_
  rintro e w1 ⟨rfl, b1⟩
  have B1 := Lib.hid b1
  clear b1 CA CB
  go_wp2_with fail
  obtain ⟨W1, hW1⟩ : ∃ W1, W1 = w1.alloc (.cells #[.int .i64 (-1), .int .i64 0] 40) := ⟨_, rfl⟩
  have P1 : Hid (Pre w W1 A B rs ss w1.heap.size (-1) 0) := by
    rw [hW1]
    exact ⟨(HA.out.below B1.out (Nat.le_refl _)).below ((Below.refl _ w1).alloc (Nat.le_refl _) _) (Nat.le_refl _), (HB.out.below B1.out (Nat.le_refl _)).below ((Below.refl _ w1).alloc (Nat.le_refl _) _) (Nat.le_refl _), Blk.new _ _ _, B1.out.alloc B1.out.size _⟩
  rw [← hW1]
  clear hW1 B1
  generalize w1.heap.size = g7 at *
  have P1d := Lib.hid (P1.out.further (Below.refl _ W1).drew)
  refine Reg.start (by kernel_rfl) ?_
  refine Reg.take 0 (v := ?_) rfl (by kernel_rfl) (fun _ _ _ h => h) rfl ?_ ?_
  rotate_left
  · intro W hW
    have hb := (P1d.out.further hW.all).f
    have q0 : W.cell? ⟨g7, 0, none⟩ = some (.int .i64 (-1)) := hb.cell 0
    have q1 : W.cell? ⟨g7, 1, none⟩ = some (.int .i64 0) := hb.cell 1
    clear hb
    go_simp
    try with_reducible rfl
  try simp only [Act.put, List.setIfInBounds_toArray, List.set_cons_zero, List.set_cons_succ]
  refine Reg.take 1 (v := ?_) rfl (by kernel_rfl) (fun _ _ _ h => h) rfl ?_ ?_
  rotate_left
  · intro W hW
    go_simp
    try with_reducible rfl
  try simp only [Act.put, List.setIfInBounds_toArray, List.set_cons_zero, List.set_cons_succ]
  refine Reg.take 2 (v := ?_) rfl (by kernel_rfl) (fun _ _ _ h => h) rfl ?_ ?_
  rotate_left
  · intro W hW
    go_simp
    try with_reducible rfl
  try simp only [Act.put, List.setIfInBounds_toArray, List.set_cons_zero, List.set_cons_succ]
  refine Reg.do_ 3 rfl (by kernel_rfl) rfl (fun K hK => ?_)
  go_simp
  refine (locate_v ss rs (-1) 0 (by rw [loc_sym]; exact HV.out) B A n n cb ca _ HM.out HN.out P1d.out.b P1d.out.a (by omega) (by omega)).mono ?_
  rintro e w2 ⟨rfl, b2⟩
  have P2 := Lib.hid (P1d.out.further b2)
  refine hK.out _ _ b2 ?_
  clear hK K b2
  try simp only [Act.put, List.setIfInBounds_toArray, List.set_cons_zero, List.set_cons_succ]
  refine Reg.take 4 (v := ?_) rfl (by kernel_rfl) (fun _ _ _ h => h) rfl ?_ ?_
  rotate_left
  · intro W hW
    go_simp
    try with_reducible rfl
  try simp only [Act.put, List.setIfInBounds_toArray, List.set_cons_zero, List.set_cons_succ]
  refine Reg.take 5 (v := ?_) rfl (by kernel_rfl) (fun _ _ _ h => h) rfl ?_ ?_
  rotate_left
  · intro W hW
    go_simp
    try with_reducible rfl
  try simp only [Act.put, List.setIfInBounds_toArray, List.set_cons_zero, List.set_cons_succ]
  refine Reg.take 6 (v := ?_) rfl (by kernel_rfl) (fun _ _ _ h => h) rfl ?_ ?_
  rotate_left
  · intro W hW
    go_simp
    try with_reducible rfl
  try simp only [Act.put, List.setIfInBounds_toArray, List.set_cons_zero, List.set_cons_succ]
  refine Reg.take 7 (v := ?_) rfl (by kernel_rfl) (fun _ _ _ h => h) rfl ?_ ?_
  rotate_left
  · intro W hW
    go_simp
    try with_reducible rfl
  try simp only [Act.put, List.setIfInBounds_toArray, List.set_cons_zero, List.set_cons_succ]
  refine Reg.take 9 (v := ?_) rfl (by kernel_rfl) (fun _ _ _ h => h) rfl ?_ ?_
  rotate_left
  · intro W hW
    go_simp
    try with_reducible rfl
  try simp only [Act.put, List.setIfInBounds_toArray, List.set_cons_zero, List.set_cons_succ]
  refine Reg.do_ 8 rfl (by kernel_rfl) rfl (fun K hK => ?_)
  go_simp
  refine (locate_v rs rs (-1) 0 (loc_self rs) A A n n ca ca _ HN.out HN.out P2.out.a P2.out.a (by omega) (by omega)).mono ?_
  rintro e w3 ⟨rfl, b3⟩
  have P3 := Lib.hid (P2.out.further b3)
  refine hK.out _ _ b3 ?_
  clear hK K b3
  try simp only [Act.put, List.setIfInBounds_toArray, List.set_cons_zero, List.set_cons_succ]
  refine Reg.take 10 (v := ?_) rfl (by kernel_rfl) (fun _ _ _ h => h) rfl ?_ ?_
  rotate_left
  · intro W hW
    go_simp
    try with_reducible rfl
  try simp only [Act.put, List.setIfInBounds_toArray, List.set_cons_zero, List.set_cons_succ]
  refine Reg.take 11 (v := ?_) rfl (by kernel_rfl) (fun _ _ _ h => h) rfl ?_ ?_
  rotate_left
  · intro W hW
    go_simp
    try with_reducible rfl
  try simp only [Act.put, List.setIfInBounds_toArray, List.set_cons_zero, List.set_cons_succ]
  refine Reg.done (by kernel_rfl) ?_
  clear P1 P1d P2
  by_cases hjn : j < n
  · have hji : (j : Int) < (n : Int) := by omega
    have hLT : Hid (loc (rs.take j) rs = ((j : Int), 28)) := loc_take (by have := HN.out; omega)
    go_wp2_with fail
    simp only [hmi]
    obtain ⟨W4, hW4⟩ : ∃ W4, W4 = w3.alloc (.cells #[.int .i64 (j : Int), .int .i64 28] 40) := ⟨_, rfl⟩
    have P4 : Hid (Pre w W4 A B rs ss g7 (-1) 0) := by rw [hW4]; exact P3.out.further ((Below.refl _ w3).alloc (Nat.le_refl _) _)
    have K4 : Hid (Blk W4 w3.heap.size 40 #[.int .i64 (j : Int), .int .i64 28]) := by rw [hW4]; exact Blk.new _ _ _
    rw [← hW4]
    clear hW4 P3
    generalize w3.heap.size = g9 at *
    obtain ⟨A2, c2, hcut, hAt⟩ := run_cut_pre (P := Try.prog) Try.underlying36 rec_size36 A n ca j (by omega)
    have HAt := Lib.hid hAt
    have P4d := Lib.hid (P4.out.further (Below.refl _ W4).drew)
    have h0j : (0 : Int) ≤ (j : Int) := by omega
    clear hAt hmi hji
    refine Reg.start (by kernel_rfl) ?_
    refine Reg.take 0 (v := ?_) rfl (by kernel_rfl) (fun _ _ _ h => h) rfl ?_ ?_
    rotate_left
    · intro W hW
      go_simp
      try with_reducible rfl
    try simp only [Act.put, List.setIfInBounds_toArray, List.set_cons_zero, List.set_cons_succ]
    refine Reg.take 1 (v := ?_) rfl (by kernel_rfl) (fun _ _ _ h => h) rfl ?_ ?_
    rotate_left
    · intro W hW
      go_simp
      try with_reducible rfl
    try simp only [Act.put, List.setIfInBounds_toArray, List.set_cons_zero, List.set_cons_succ]
    refine Reg.take 2 (v := ?_) rfl (by kernel_rfl) (fun _ _ _ h => h) rfl ?_ ?_
    rotate_left
    · intro W hW
      go_simp
      try with_reducible rfl
    try simp only [Act.put, List.setIfInBounds_toArray, List.set_cons_zero, List.set_cons_succ]
    refine Reg.take 3 (v := ?_) rfl (by kernel_rfl) (fun _ _ _ h => h) rfl ?_ ?_
    rotate_left
    · intro W hW
      go_simp
      try with_reducible rfl
    try simp only [Act.put, List.setIfInBounds_toArray, List.set_cons_zero, List.set_cons_succ]
    refine Reg.take 5 (v := ?_) rfl (by kernel_rfl) (fun _ _ _ h => h) rfl ?_ ?_
    rotate_left
    · intro W hW
      have hb := K4.out.below hW.old K4.out.lt
      have q0 : W.cell? ⟨g9, 0, none⟩ = some (.int .i64 (j : Int)) := hb.cell 0
      have q1 : W.cell? ⟨g9, 1, none⟩ = some (.int .i64 28) := hb.cell 1
      clear hb
      go_simp
      try with_reducible rfl
    try simp only [Act.put, List.setIfInBounds_toArray, List.set_cons_zero, List.set_cons_succ]
    refine Reg.do_ 4 rfl (by kernel_rfl) rfl (fun K hK => ?_)
    go_simp
    refine (locate_v (rs.take j) rs (j : Int) 28 hLT.out A2 A j n c2 ca _ (by rw [List.length_take]; have := HN.out; omega) HN.out (recSl_take j P4d.out.a HAt.out) P4d.out.a (by omega) (by omega)).mono ?_
    rintro e w5 ⟨rfl, b5⟩
    have P5 := Lib.hid (P4d.out.further b5)
    refine hK.out _ _ b5 ?_
    clear hK K b5
    try simp only [Act.put, List.setIfInBounds_toArray, List.set_cons_zero, List.set_cons_succ]
    refine Reg.take 6 (v := ?_) rfl (by kernel_rfl) (fun _ _ _ h => h) rfl ?_ ?_
    rotate_left
    · intro W hW
      go_simp
      try with_reducible rfl
    try simp only [Act.put, List.setIfInBounds_toArray, List.set_cons_zero, List.set_cons_succ]
    refine Reg.done (by kernel_rfl) ?_
    have q0 : w5.cell? ⟨g7, 0, none⟩ = some (.int .i64 (-1)) := P5.out.f.cell 0
    have q1 : w5.cell? ⟨g7, 1, none⟩ = some (.int .i64 0) := P5.out.f.cell 1
    clear hcut P4 P4d K4
    go_wp2_with fail
    go_loopw [11] (fun v wr => ∃ i : Nat, i ≤ n ∧ v = .int .i64 i ∧ Hid (Below w5.heap.size w5 wr)) (fun v _ => n - (intOf v).toNat)
    case atStart => exact ⟨0, by omega, rfl, Below.refl _ _⟩
    case round =>
      obtain ⟨i, hi, rfl, HQ⟩ := hrel
      have P6 := Lib.hid (P5.out.further HQ.out)
      by_cases hlt : i < n
      · obtain ⟨r, s, e1, e2, hsm⟩ := HST.out i hlt
        have il1 : i < n := by have := (List.getElem?_eq_some_iff.1 e1).1; have := HN.out; omega
        have il2 : i < n := by have := (List.getElem?_eq_some_iff.1 e2).1; have := HM.out; omega
        obtain ⟨b1, o1, cs1, rfl, n1, i1, c1⟩ := P6.out.a i r e1
        obtain ⟨b2, o2, cs2, rfl, n2, i2, c2⟩ := P6.out.b i s e2
        have L1 : Hid (∀ W, Reg.SB wr.drew W → (loadRow 48 (.pointer (some ⟨b1, o1 + i * 12, none⟩))).run Try.prog W = .ok (.agg cs1) W) := fun W hW => load_rec (fun j v hv => (hW.old.cell (World.block_lt_of_cell? wr ⟨b1, o1 + i * 12 + j, none⟩ (c1 j v hv))).trans (c1 j v hv)) n1
        have L2 : Hid (∀ W, Reg.SB wr.drew W → (loadRow 48 (.pointer (some ⟨b2, o2 + i * 12, none⟩))).run Try.prog W = .ok (.agg cs2) W) := fun W hW => load_rec (fun j v hv => (hW.old.cell (World.block_lt_of_cell? wr ⟨b2, o2 + i * 12 + j, none⟩ (c2 j v hv))).trans (c2 j v hv)) n2
        have I1 := Lib.hid i1
        have I2 := Lib.hid i2
        have HSm := Lib.hid hsm
        have h1i : (i : Int) < (n : Int) := by omega
        have h2i : (i : Int) < (n : Int) := by omega
        have h0i : (0 : Int) ≤ (i : Int) := by omega
        clear c1 c2 n1 n2 i1 i2 hsm e1 e2
        go_wp2_with fail
        refine Reg.start (by kernel_rfl) ?_
        refine Reg.take 0 (v := ?_) rfl (by kernel_rfl) (fun _ _ _ h => h) rfl ?_ ?_
        rotate_left
        · intro W hW
          go_simp
          try with_reducible rfl
        try simp only [Act.put, List.setIfInBounds_toArray, List.set_cons_zero, List.set_cons_succ]
        refine Reg.take 1 (v := ?_) rfl (by kernel_rfl) (fun _ _ _ h => h) rfl ?_ ?_
        rotate_left
        · intro W hW
          go_simp
          try with_reducible rfl
        try simp only [Act.put, List.setIfInBounds_toArray, List.set_cons_zero, List.set_cons_succ]
        refine Reg.take 2 (v := ?_) rfl (by kernel_rfl) (fun _ _ _ h => h) rfl ?_ ?_
        rotate_left
        · intro W hW
          go_simp
          try with_reducible rfl
        try simp only [Act.put, List.setIfInBounds_toArray, List.set_cons_zero, List.set_cons_succ]
        refine Reg.take 3 (v := ?_) rfl (by kernel_rfl) (fun _ _ _ h => h) rfl ?_ ?_
        rotate_left
        · intro W hW
          have q := L1.out W hW
          go_simp
          try with_reducible rfl
        try simp only [Act.put, List.setIfInBounds_toArray, List.set_cons_zero, List.set_cons_succ]
        refine Reg.take 4 (v := ?_) rfl (by kernel_rfl) (fun _ _ _ h => h) rfl ?_ ?_
        rotate_left
        · intro W hW
          go_simp
          try with_reducible rfl
        try simp only [Act.put, List.setIfInBounds_toArray, List.set_cons_zero, List.set_cons_succ]
        refine Reg.take 5 (v := ?_) rfl (by kernel_rfl) (fun _ _ _ h => h) rfl ?_ ?_
        rotate_left
        · intro W hW
          go_simp
          try with_reducible rfl
        try simp only [Act.put, List.setIfInBounds_toArray, List.set_cons_zero, List.set_cons_succ]
        refine Reg.take 6 (v := ?_) rfl (by kernel_rfl) (fun _ _ _ h => h) rfl ?_ ?_
        rotate_left
        · intro W hW
          go_simp
          try with_reducible rfl
        try simp only [Act.put, List.setIfInBounds_toArray, List.set_cons_zero, List.set_cons_succ]
        refine Reg.take 7 (v := ?_) rfl (by kernel_rfl) (fun _ _ _ h => h) rfl ?_ ?_
        rotate_left
        · intro W hW
          have q := L2.out W hW
          go_simp
          try with_reducible rfl
        try simp only [Act.put, List.setIfInBounds_toArray, List.set_cons_zero, List.set_cons_succ]
        refine Reg.do_ 8 rfl (by kernel_rfl) rfl (fun K hK => ?_)
        go_simp
        refine (same_v cs1 cs2 r s true HSm.out _ (I1.out.below (Below.refl _ wr).drew (Nat.le_refl _)) (I2.out.below (Below.refl _ wr).drew (Nat.le_refl _))).mono ?_
        rintro e w6 ⟨rfl, b6⟩
        have B6 : Hid (Below wr.heap.size wr w6) := (Below.refl _ wr).drew.trans b6
        refine hK.out _ _ b6 ?_
        clear hK K b6
        try simp only [Act.put, List.setIfInBounds_toArray, List.set_cons_zero, List.set_cons_succ]
        refine Reg.take 9 (v := ?_) rfl (by kernel_rfl) (fun _ _ _ h => h) rfl ?_ ?_
        rotate_left
        · intro W hW
          go_simp
          try with_reducible rfl
        try simp only [Act.put, List.setIfInBounds_toArray, List.set_cons_zero, List.set_cons_succ]
        refine Reg.done (by kernel_rfl) ?_
        go_wp2_with fail
        go_roundw
        case rel => exact ⟨i + 1, by omega, by go_num, HQ.out.trans (B6.out.mono HQ.out.size)⟩
        case measure => simp [intOf]; omega
      · obtain rfl : i = n := by omega
        have q0 := P6.out.f.cell 0
        have q1 := P6.out.f.cell 1
        simp only [List.getElem?_toArray, List.getElem?_cons_zero, List.getElem?_cons_succ] at q0 q1
        have B6 := Lib.hid P6.out.old
        go_wp2_with fail
        refine (awake_any _).mono ?_
        rintro e w7 ⟨rfl, b7⟩
        have B7 := Lib.hid (B6.out.trans (b7.mono B6.out.size))
        clear b7
        go_wp2_with fail
        go_ret
        exact ⟨rfl, B7.out⟩
  · have hji : (n : Int) ≤ (j : Int) := by omega
    have hLT : Hid (loc (rs.take j) rs = (-1, 0)) := loc_whole (by have := HN.out; omega)
    go_wp2_with fail
    simp only [hmi]
    obtain ⟨W4, hW4⟩ : ∃ W4, W4 = w3.alloc (.cells #[.int .i64 (-1), .int .i64 0] 40) := ⟨_, rfl⟩
    have P4 : Hid (Pre w W4 A B rs ss g7 (-1) 0) := by rw [hW4]; exact P3.out.further ((Below.refl _ w3).alloc (Nat.le_refl _) _)
    have K4 : Hid (Blk W4 w3.heap.size 40 #[.int .i64 (-1), .int .i64 0]) := by rw [hW4]; exact Blk.new _ _ _
    rw [← hW4]
    clear hW4 P3
    generalize w3.heap.size = g9 at *
    obtain ⟨A2, c2, hcut, hAt⟩ := run_cut_pre (P := Try.prog) Try.underlying36 rec_size36 A n ca j (by omega)
    have HAt := Lib.hid hAt
    have P4d := Lib.hid (P4.out.further (Below.refl _ W4).drew)
    have h0j : (0 : Int) ≤ (j : Int) := by omega
    clear hAt hmi hji
    refine Reg.start (by kernel_rfl) ?_
    refine Reg.take 0 (v := ?_) rfl (by kernel_rfl) (fun _ _ _ h => h) rfl ?_ ?_
    rotate_left
    · intro W hW
      go_simp
      try with_reducible rfl
    try simp only [Act.put, List.setIfInBounds_toArray, List.set_cons_zero, List.set_cons_succ]
    refine Reg.take 1 (v := ?_) rfl (by kernel_rfl) (fun _ _ _ h => h) rfl ?_ ?_
    rotate_left
    · intro W hW
      go_simp
      try with_reducible rfl
    try simp only [Act.put, List.setIfInBounds_toArray, List.set_cons_zero, List.set_cons_succ]
    refine Reg.take 2 (v := ?_) rfl (by kernel_rfl) (fun _ _ _ h => h) rfl ?_ ?_
    rotate_left
    · intro W hW
      go_simp
      try with_reducible rfl
    try simp only [Act.put, List.setIfInBounds_toArray, List.set_cons_zero, List.set_cons_succ]
    refine Reg.take 3 (v := ?_) rfl (by kernel_rfl) (fun _ _ _ h => h) rfl ?_ ?_
    rotate_left
    · intro W hW
      go_simp
      try with_reducible rfl
    try simp only [Act.put, List.setIfInBounds_toArray, List.set_cons_zero, List.set_cons_succ]
    refine Reg.take 5 (v := ?_) rfl (by kernel_rfl) (fun _ _ _ h => h) rfl ?_ ?_
    rotate_left
    · intro W hW
      have hb := K4.out.below hW.old K4.out.lt
      have q0 : W.cell? ⟨g9, 0, none⟩ = some (.int .i64 (-1)) := hb.cell 0
      have q1 : W.cell? ⟨g9, 1, none⟩ = some (.int .i64 0) := hb.cell 1
      clear hb
      go_simp
      try with_reducible rfl
    try simp only [Act.put, List.setIfInBounds_toArray, List.set_cons_zero, List.set_cons_succ]
    refine Reg.do_ 4 rfl (by kernel_rfl) rfl (fun K hK => ?_)
    go_simp
    refine (locate_v (rs.take j) rs (-1) 0 hLT.out A2 A j n c2 ca _ (by rw [List.length_take]; have := HN.out; omega) HN.out (recSl_take j P4d.out.a HAt.out) P4d.out.a (by omega) (by omega)).mono ?_
    rintro e w5 ⟨rfl, b5⟩
    have P5 := Lib.hid (P4d.out.further b5)
    refine hK.out _ _ b5 ?_
    clear hK K b5
    try simp only [Act.put, List.setIfInBounds_toArray, List.set_cons_zero, List.set_cons_succ]
    refine Reg.take 6 (v := ?_) rfl (by kernel_rfl) (fun _ _ _ h => h) rfl ?_ ?_
    rotate_left
    · intro W hW
      go_simp
      try with_reducible rfl
    try simp only [Act.put, List.setIfInBounds_toArray, List.set_cons_zero, List.set_cons_succ]
    refine Reg.done (by kernel_rfl) ?_
    have q0 : w5.cell? ⟨g7, 0, none⟩ = some (.int .i64 (-1)) := P5.out.f.cell 0
    have q1 : w5.cell? ⟨g7, 1, none⟩ = some (.int .i64 0) := P5.out.f.cell 1
    clear hcut P4 P4d K4
    go_wp2_with fail
    go_loopw [11] (fun v wr => ∃ i : Nat, i ≤ n ∧ v = .int .i64 i ∧ Hid (Below w5.heap.size w5 wr)) (fun v _ => n - (intOf v).toNat)
    case atStart => exact ⟨0, by omega, rfl, Below.refl _ _⟩
    case round =>
      obtain ⟨i, hi, rfl, HQ⟩ := hrel
      have P6 := Lib.hid (P5.out.further HQ.out)
      by_cases hlt : i < n
      · obtain ⟨r, s, e1, e2, hsm⟩ := HST.out i hlt
        have il1 : i < n := by have := (List.getElem?_eq_some_iff.1 e1).1; have := HN.out; omega
        have il2 : i < n := by have := (List.getElem?_eq_some_iff.1 e2).1; have := HM.out; omega
        obtain ⟨b1, o1, cs1, rfl, n1, i1, c1⟩ := P6.out.a i r e1
        obtain ⟨b2, o2, cs2, rfl, n2, i2, c2⟩ := P6.out.b i s e2
        have L1 : Hid (∀ W, Reg.SB wr.drew W → (loadRow 48 (.pointer (some ⟨b1, o1 + i * 12, none⟩))).run Try.prog W = .ok (.agg cs1) W) := fun W hW => load_rec (fun j v hv => (hW.old.cell (World.block_lt_of_cell? wr ⟨b1, o1 + i * 12 + j, none⟩ (c1 j v hv))).trans (c1 j v hv)) n1
        have L2 : Hid (∀ W, Reg.SB wr.drew W → (loadRow 48 (.pointer (some ⟨b2, o2 + i * 12, none⟩))).run Try.prog W = .ok (.agg cs2) W) := fun W hW => load_rec (fun j v hv => (hW.old.cell (World.block_lt_of_cell? wr ⟨b2, o2 + i * 12 + j, none⟩ (c2 j v hv))).trans (c2 j v hv)) n2
        have I1 := Lib.hid i1
        have I2 := Lib.hid i2
        have HSm := Lib.hid hsm
        have h1i : (i : Int) < (n : Int) := by omega
        have h2i : (i : Int) < (n : Int) := by omega
        have h0i : (0 : Int) ≤ (i : Int) := by omega
        clear c1 c2 n1 n2 i1 i2 hsm e1 e2
        go_wp2_with fail
        refine Reg.start (by kernel_rfl) ?_
        refine Reg.take 0 (v := ?_) rfl (by kernel_rfl) (fun _ _ _ h => h) rfl ?_ ?_
        rotate_left
        · intro W hW
          go_simp
          try with_reducible rfl
        try simp only [Act.put, List.setIfInBounds_toArray, List.set_cons_zero, List.set_cons_succ]
        refine Reg.take 1 (v := ?_) rfl (by kernel_rfl) (fun _ _ _ h => h) rfl ?_ ?_
        rotate_left
        · intro W hW
          go_simp
          try with_reducible rfl
        try simp only [Act.put, List.setIfInBounds_toArray, List.set_cons_zero, List.set_cons_succ]
        refine Reg.take 2 (v := ?_) rfl (by kernel_rfl) (fun _ _ _ h => h) rfl ?_ ?_
        rotate_left
        · intro W hW
          go_simp
          try with_reducible rfl
        try simp only [Act.put, List.setIfInBounds_toArray, List.set_cons_zero, List.set_cons_succ]
        refine Reg.take 3 (v := ?_) rfl (by kernel_rfl) (fun _ _ _ h => h) rfl ?_ ?_
        rotate_left
        · intro W hW
          have q := L1.out W hW
          go_simp
          try with_reducible rfl
        try simp only [Act.put, List.setIfInBounds_toArray, List.set_cons_zero, List.set_cons_succ]
        refine Reg.take 4 (v := ?_) rfl (by kernel_rfl) (fun _ _ _ h => h) rfl ?_ ?_
        rotate_left
        · intro W hW
          go_simp
          try with_reducible rfl
        try simp only [Act.put, List.setIfInBounds_toArray, List.set_cons_zero, List.set_cons_succ]
        refine Reg.take 5 (v := ?_) rfl (by kernel_rfl) (fun _ _ _ h => h) rfl ?_ ?_
        rotate_left
        · intro W hW
          go_simp
          try with_reducible rfl
        try simp only [Act.put, List.setIfInBounds_toArray, List.set_cons_zero, List.set_cons_succ]
        refine Reg.take 6 (v := ?_) rfl (by kernel_rfl) (fun _ _ _ h => h) rfl ?_ ?_
        rotate_left
        · intro W hW
          go_simp
          try with_reducible rfl
        try simp only [Act.put, List.setIfInBounds_toArray, List.set_cons_zero, List.set_cons_succ]
        refine Reg.take 7 (v := ?_) rfl (by kernel_rfl) (fun _ _ _ h => h) rfl ?_ ?_
        rotate_left
        · intro W hW
          have q := L2.out W hW
          go_simp
          try with_reducible rfl
        try simp only [Act.put, List.setIfInBounds_toArray, List.set_cons_zero, List.set_cons_succ]
        refine Reg.do_ 8 rfl (by kernel_rfl) rfl (fun K hK => ?_)
        go_simp
        refine (same_v cs1 cs2 r s true HSm.out _ (I1.out.below (Below.refl _ wr).drew (Nat.le_refl _)) (I2.out.below (Below.refl _ wr).drew (Nat.le_refl _))).mono ?_
        rintro e w6 ⟨rfl, b6⟩
        have B6 : Hid (Below wr.heap.size wr w6) := (Below.refl _ wr).drew.trans b6
        refine hK.out _ _ b6 ?_
        clear hK K b6
        try simp only [Act.put, List.setIfInBounds_toArray, List.set_cons_zero, List.set_cons_succ]
        refine Reg.take 9 (v := ?_) rfl (by kernel_rfl) (fun _ _ _ h => h) rfl ?_ ?_
        rotate_left
        · intro W hW
          go_simp
          try with_reducible rfl
        try simp only [Act.put, List.setIfInBounds_toArray, List.set_cons_zero, List.set_cons_succ]
        refine Reg.done (by kernel_rfl) ?_
        go_wp2_with fail
        go_roundw
        case rel => exact ⟨i + 1, by omega, by go_num, HQ.out.trans (B6.out.mono HQ.out.size)⟩
        case measure => simp [intOf]; omega
      · obtain rfl : i = n := by omega
        have q0 := P6.out.f.cell 0
        have q1 := P6.out.f.cell 1
        simp only [List.getElem?_toArray, List.getElem?_cons_zero, List.getElem?_cons_succ] at q0 q1
        have B6 := Lib.hid P6.out.old
        go_wp2_with fail
        refine (awake_any _).mono ?_
        rintro e w7 ⟨rfl, b7⟩
        have B7 := Lib.hid (B6.out.trans (b7.mono B6.out.size))
        clear b7
        go_wp2_with fail
        go_ret
        exact ⟨rfl, B7.out⟩

set_option maxRecDepth 100000 in
set_option maxHeartbeats 8000000 in
theorem prefix_29 (rs ss : List Rec) (A B : Option Addr) (n m ca cb z : Nat) (w : World) (hn : rs.length = n) (hm : ss.length = m) (ha : RecSl w A rs) (hb : RecSl w B ss) (h1 : n ≤ 30) (h2 : m ≤ 30) (hca : n ≤ ca) (hz : z < 256) (x : Nat) (hv : loc rs ss = ((x : Int), 29)) (hxn : x < n) (hxm : x < m) (hst : SameTo rs ss x) (hdf : ∃ r s, rs[x]? = some r ∧ ss[x]? = some s ∧ r.same s = false) (CY : Hid (∀ W, RecSl W A rs → RecSl W B ss → Calls Try.prog 19 #[.slice A n ca] W fun e w' => e = .returned (.bool true) ∧ W = w') ∧ Hid (∀ W, RecSl W A rs → RecSl W B ss → Calls Try.prog 19 #[.slice B m cb] W fun e w' => e = .returned (.bool true) ∧ W = w')) :
    Calls Try.prog 8 #[.slice A n ca, .slice B m cb, .int .u8 (z : Int)] w fun e w' => e = .returned (.bool true) ∧ Below w.heap.size w w' := by
  have HN := Lib.hid hn
  have HM := Lib.hid hm
  have HA := Lib.hid ha
  have HB := Lib.hid hb
  have HV := Lib.hid hv
  have HST := Lib.hid hst
  have HDf := Lib.hid hdf
  clear hdf
  have hmod : z % (n + 1) < n + 1 := Nat.mod_lt _ (by omega)
  have hmi : (z : Int) % ((n : Int) + 1) = ((z % (n + 1) : Nat) : Int) := by rw [Int.natCast_emod, Int.natCast_add]; rfl
  obtain ⟨j, hj⟩ : ∃ j, j = z % (n + 1) := ⟨_, rfl⟩
  rw [← hj] at hmod hmi
  obtain ⟨CA, CB⟩ := CY
  clear hn hm ha hb hv hst hj
  go_enter Try.func8, Try.ntmps8
  go_wp2_with fail
  refine (CA.out _ HA.out HB.out).mono ?_
  rintro e w' ⟨rfl, rfl⟩
  go_wp2_with fail
  refine (CB.out _ HA.out HB.out).mono ?_
  rintro e w' ⟨rfl, rfl⟩
  go_wp2_with fail
  refine (locate_v rs ss ((x : Int)) 29 HV.out A B n m ca cb _ HN.out HM.out HA.out HB.out (by omega) (by omega)).mono ?_
  rintro e w1 ⟨rfl, b1⟩
  have B1 := Lib.hid b1
  clear b1 CA CB
  go_wp2_with fail
  obtain ⟨W1, hW1⟩ : ∃ W1, W1 = w1.alloc (.cells #[.int .i64 ((x : Int)), .int .i64 29] 40) := ⟨_, rfl⟩
  have P1 : Hid (Pre w W1 A B rs ss w1.heap.size ((x : Int)) 29) := by
    rw [hW1]
    exact ⟨(HA.out.below B1.out (Nat.le_refl _)).below ((Below.refl _ w1).alloc (Nat.le_refl _) _) (Nat.le_refl _), (HB.out.below B1.out (Nat.le_refl _)).below ((Below.refl _ w1).alloc (Nat.le_refl _) _) (Nat.le_refl _), Blk.new _ _ _, B1.out.alloc B1.out.size _⟩
  rw [← hW1]
  clear hW1 B1
  generalize w1.heap.size = g7 at *
  have P1d := Lib.hid (P1.out.further (Below.refl _ W1).drew)
  refine Reg.start (by kernel_rfl) ?_
  refine Reg.take 0 (v := ?_) rfl (by kernel_rfl) (fun _ _ _ h => h) rfl ?_ ?_
  rotate_left
  · intro W hW
    have hb := (P1d.out.further hW.all).f
    have q0 : W.cell? ⟨g7, 0, none⟩ = some (.int .i64 ((x : Int))) := hb.cell 0
    have q1 : W.cell? ⟨g7, 1, none⟩ = some (.int .i64 29) := hb.cell 1
    clear hb
    go_simp
    try with_reducible rfl
  try simp only [Act.put, List.setIfInBounds_toArray, List.set_cons_zero, List.set_cons_succ]
  refine Reg.take 1 (v := ?_) rfl (by kernel_rfl) (fun _ _ _ h => h) rfl ?_ ?_
  rotate_left
  · intro W hW
    go_simp
    try with_reducible rfl
  try simp only [Act.put, List.setIfInBounds_toArray, List.set_cons_zero, List.set_cons_succ]
  refine Reg.take 2 (v := ?_) rfl (by kernel_rfl) (fun _ _ _ h => h) rfl ?_ ?_
  rotate_left
  · intro W hW
    go_simp
    try with_reducible rfl
  try simp only [Act.put, List.setIfInBounds_toArray, List.set_cons_zero, List.set_cons_succ]
  refine Reg.do_ 3 rfl (by kernel_rfl) rfl (fun K hK => ?_)
  go_simp
  refine (locate_v ss rs ((x : Int)) 29 (by rw [loc_sym]; exact HV.out) B A m n cb ca _ HM.out HN.out P1d.out.b P1d.out.a (by omega) (by omega)).mono ?_
  rintro e w2 ⟨rfl, b2⟩
  have P2 := Lib.hid (P1d.out.further b2)
  refine hK.out _ _ b2 ?_
  clear hK K b2
  try simp only [Act.put, List.setIfInBounds_toArray, List.set_cons_zero, List.set_cons_succ]
  refine Reg.take 4 (v := ?_) rfl (by kernel_rfl) (fun _ _ _ h => h) rfl ?_ ?_
  rotate_left
  · intro W hW
    go_simp
    try with_reducible rfl
  try simp only [Act.put, List.setIfInBounds_toArray, List.set_cons_zero, List.set_cons_succ]
  refine Reg.take 5 (v := ?_) rfl (by kernel_rfl) (fun _ _ _ h => h) rfl ?_ ?_
  rotate_left
  · intro W hW
    go_simp
    try with_reducible rfl
  try simp only [Act.put, List.setIfInBounds_toArray, List.set_cons_zero, List.set_cons_succ]
  refine Reg.take 6 (v := ?_) rfl (by kernel_rfl) (fun _ _ _ h => h) rfl ?_ ?_
  rotate_left
  · intro W hW
    go_simp
    try with_reducible rfl
  try simp only [Act.put, List.setIfInBounds_toArray, List.set_cons_zero, List.set_cons_succ]
  refine Reg.take 7 (v := ?_) rfl (by kernel_rfl) (fun _ _ _ h => h) rfl ?_ ?_
  rotate_left
  · intro W hW
    go_simp
    try with_reducible rfl
  try simp only [Act.put, List.setIfInBounds_toArray, List.set_cons_zero, List.set_cons_succ]
  refine Reg.take 9 (v := ?_) rfl (by kernel_rfl) (fun _ _ _ h => h) rfl ?_ ?_
  rotate_left
  · intro W hW
    go_simp
    try with_reducible rfl
  try simp only [Act.put, List.setIfInBounds_toArray, List.set_cons_zero, List.set_cons_succ]
  refine Reg.do_ 8 rfl (by kernel_rfl) rfl (fun K hK => ?_)
  go_simp
  refine (locate_v rs rs (-1) 0 (loc_self rs) A A n n ca ca _ HN.out HN.out P2.out.a P2.out.a (by omega) (by omega)).mono ?_
  rintro e w3 ⟨rfl, b3⟩
  have P3 := Lib.hid (P2.out.further b3)
  refine hK.out _ _ b3 ?_
  clear hK K b3
  try simp only [Act.put, List.setIfInBounds_toArray, List.set_cons_zero, List.set_cons_succ]
  refine Reg.take 10 (v := ?_) rfl (by kernel_rfl) (fun _ _ _ h => h) rfl ?_ ?_
  rotate_left
  · intro W hW
    go_simp
    try with_reducible rfl
  try simp only [Act.put, List.setIfInBounds_toArray, List.set_cons_zero, List.set_cons_succ]
  refine Reg.take 11 (v := ?_) rfl (by kernel_rfl) (fun _ _ _ h => h) rfl ?_ ?_
  rotate_left
  · intro W hW
    go_simp
    try with_reducible rfl
  try simp only [Act.put, List.setIfInBounds_toArray, List.set_cons_zero, List.set_cons_succ]
  refine Reg.done (by kernel_rfl) ?_
  clear P1 P1d P2
  by_cases hjn : j < n
  · have hji : (j : Int) < (n : Int) := by omega
    have hLT : Hid (loc (rs.take j) rs = ((j : Int), 28)) := loc_take (by have := HN.out; omega)
    go_wp2_with fail
    simp only [hmi]
    obtain ⟨W4, hW4⟩ : ∃ W4, W4 = w3.alloc (.cells #[.int .i64 (j : Int), .int .i64 28] 40) := ⟨_, rfl⟩
    have P4 : Hid (Pre w W4 A B rs ss g7 ((x : Int)) 29) := by rw [hW4]; exact P3.out.further ((Below.refl _ w3).alloc (Nat.le_refl _) _)
    have K4 : Hid (Blk W4 w3.heap.size 40 #[.int .i64 (j : Int), .int .i64 28]) := by rw [hW4]; exact Blk.new _ _ _
    rw [← hW4]
    clear hW4 P3
    generalize w3.heap.size = g9 at *
    obtain ⟨A2, c2, hcut, hAt⟩ := run_cut_pre (P := Try.prog) Try.underlying36 rec_size36 A n ca j (by omega)
    have HAt := Lib.hid hAt
    have P4d := Lib.hid (P4.out.further (Below.refl _ W4).drew)
    have h0j : (0 : Int) ≤ (j : Int) := by omega
    clear hAt hmi hji
    refine Reg.start (by kernel_rfl) ?_
    refine Reg.take 0 (v := ?_) rfl (by kernel_rfl) (fun _ _ _ h => h) rfl ?_ ?_
    rotate_left
    · intro W hW
      go_simp
      try with_reducible rfl
    try simp only [Act.put, List.setIfInBounds_toArray, List.set_cons_zero, List.set_cons_succ]
    refine Reg.take 1 (v := ?_) rfl (by kernel_rfl) (fun _ _ _ h => h) rfl ?_ ?_
    rotate_left
    · intro W hW
      go_simp
      try with_reducible rfl
    try simp only [Act.put, List.setIfInBounds_toArray, List.set_cons_zero, List.set_cons_succ]
    refine Reg.take 2 (v := ?_) rfl (by kernel_rfl) (fun _ _ _ h => h) rfl ?_ ?_
    rotate_left
    · intro W hW
      go_simp
      try with_reducible rfl
    try simp only [Act.put, List.setIfInBounds_toArray, List.set_cons_zero, List.set_cons_succ]
    refine Reg.take 3 (v := ?_) rfl (by kernel_rfl) (fun _ _ _ h => h) rfl ?_ ?_
    rotate_left
    · intro W hW
      go_simp
      try with_reducible rfl
    try simp only [Act.put, List.setIfInBounds_toArray, List.set_cons_zero, List.set_cons_succ]
    refine Reg.take 5 (v := ?_) rfl (by kernel_rfl) (fun _ _ _ h => h) rfl ?_ ?_
    rotate_left
    · intro W hW
      have hb := K4.out.below hW.old K4.out.lt
      have q0 : W.cell? ⟨g9, 0, none⟩ = some (.int .i64 (j : Int)) := hb.cell 0
      have q1 : W.cell? ⟨g9, 1, none⟩ = some (.int .i64 28) := hb.cell 1
      clear hb
      go_simp
      try with_reducible rfl
    try simp only [Act.put, List.setIfInBounds_toArray, List.set_cons_zero, List.set_cons_succ]
    refine Reg.do_ 4 rfl (by kernel_rfl) rfl (fun K hK => ?_)
    go_simp
    refine (locate_v (rs.take j) rs (j : Int) 28 hLT.out A2 A j n c2 ca _ (by rw [List.length_take]; have := HN.out; omega) HN.out (recSl_take j P4d.out.a HAt.out) P4d.out.a (by omega) (by omega)).mono ?_
    rintro e w5 ⟨rfl, b5⟩
    have P5 := Lib.hid (P4d.out.further b5)
    refine hK.out _ _ b5 ?_
    clear hK K b5
    try simp only [Act.put, List.setIfInBounds_toArray, List.set_cons_zero, List.set_cons_succ]
    refine Reg.take 6 (v := ?_) rfl (by kernel_rfl) (fun _ _ _ h => h) rfl ?_ ?_
    rotate_left
    · intro W hW
      go_simp
      try with_reducible rfl
    try simp only [Act.put, List.setIfInBounds_toArray, List.set_cons_zero, List.set_cons_succ]
    refine Reg.done (by kernel_rfl) ?_
    have q0 : w5.cell? ⟨g7, 0, none⟩ = some (.int .i64 ((x : Int))) := P5.out.f.cell 0
    have q1 : w5.cell? ⟨g7, 1, none⟩ = some (.int .i64 29) := P5.out.f.cell 1
    clear hcut P4 P4d K4
    have tn : decide (n < x) = false := by simp; omega
    have tm : decide (m < x) = false := by simp; omega
    have t0 : decide ((x : Int) < 0) = false := by simp <;> omega
    go_wp2_with fail
    go_loopw [11] (fun v wr => ∃ i : Nat, i ≤ x ∧ v = .int .i64 i ∧ Hid (Below w5.heap.size w5 wr)) (fun v _ => x - (intOf v).toNat)
    case atStart => exact ⟨0, by omega, rfl, Below.refl _ _⟩
    case round =>
      obtain ⟨i, hi, rfl, HQ⟩ := hrel
      have P6 := Lib.hid (P5.out.further HQ.out)
      by_cases hlt : i < x
      · obtain ⟨r, s, e1, e2, hsm⟩ := HST.out i hlt
        have il1 : i < n := by have := (List.getElem?_eq_some_iff.1 e1).1; have := HN.out; omega
        have il2 : i < m := by have := (List.getElem?_eq_some_iff.1 e2).1; have := HM.out; omega
        obtain ⟨b1, o1, cs1, rfl, n1, i1, c1⟩ := P6.out.a i r e1
        obtain ⟨b2, o2, cs2, rfl, n2, i2, c2⟩ := P6.out.b i s e2
        have L1 : Hid (∀ W, Reg.SB wr.drew W → (loadRow 48 (.pointer (some ⟨b1, o1 + i * 12, none⟩))).run Try.prog W = .ok (.agg cs1) W) := fun W hW => load_rec (fun j v hv => (hW.old.cell (World.block_lt_of_cell? wr ⟨b1, o1 + i * 12 + j, none⟩ (c1 j v hv))).trans (c1 j v hv)) n1
        have L2 : Hid (∀ W, Reg.SB wr.drew W → (loadRow 48 (.pointer (some ⟨b2, o2 + i * 12, none⟩))).run Try.prog W = .ok (.agg cs2) W) := fun W hW => load_rec (fun j v hv => (hW.old.cell (World.block_lt_of_cell? wr ⟨b2, o2 + i * 12 + j, none⟩ (c2 j v hv))).trans (c2 j v hv)) n2
        have I1 := Lib.hid i1
        have I2 := Lib.hid i2
        have HSm := Lib.hid hsm
        have h1i : (i : Int) < (n : Int) := by omega
        have h2i : (i : Int) < (m : Int) := by omega
        have h0i : (0 : Int) ≤ (i : Int) := by omega
        clear c1 c2 n1 n2 i1 i2 hsm e1 e2
        go_wp2_with fail
        refine Reg.start (by kernel_rfl) ?_
        refine Reg.take 0 (v := ?_) rfl (by kernel_rfl) (fun _ _ _ h => h) rfl ?_ ?_
        rotate_left
        · intro W hW
          go_simp
          try with_reducible rfl
        try simp only [Act.put, List.setIfInBounds_toArray, List.set_cons_zero, List.set_cons_succ]
        refine Reg.take 1 (v := ?_) rfl (by kernel_rfl) (fun _ _ _ h => h) rfl ?_ ?_
        rotate_left
        · intro W hW
          go_simp
          try with_reducible rfl
        try simp only [Act.put, List.setIfInBounds_toArray, List.set_cons_zero, List.set_cons_succ]
        refine Reg.take 2 (v := ?_) rfl (by kernel_rfl) (fun _ _ _ h => h) rfl ?_ ?_
        rotate_left
        · intro W hW
          go_simp
          try with_reducible rfl
        try simp only [Act.put, List.setIfInBounds_toArray, List.set_cons_zero, List.set_cons_succ]
        refine Reg.take 3 (v := ?_) rfl (by kernel_rfl) (fun _ _ _ h => h) rfl ?_ ?_
        rotate_left
        · intro W hW
          have q := L1.out W hW
          go_simp
          try with_reducible rfl
        try simp only [Act.put, List.setIfInBounds_toArray, List.set_cons_zero, List.set_cons_succ]
        refine Reg.take 4 (v := ?_) rfl (by kernel_rfl) (fun _ _ _ h => h) rfl ?_ ?_
        rotate_left
        · intro W hW
          go_simp
          try with_reducible rfl
        try simp only [Act.put, List.setIfInBounds_toArray, List.set_cons_zero, List.set_cons_succ]
        refine Reg.take 5 (v := ?_) rfl (by kernel_rfl) (fun _ _ _ h => h) rfl ?_ ?_
        rotate_left
        · intro W hW
          go_simp
          try with_reducible rfl
        try simp only [Act.put, List.setIfInBounds_toArray, List.set_cons_zero, List.set_cons_succ]
        refine Reg.take 6 (v := ?_) rfl (by kernel_rfl) (fun _ _ _ h => h) rfl ?_ ?_
        rotate_left
        · intro W hW
          go_simp
          try with_reducible rfl
        try simp only [Act.put, List.setIfInBounds_toArray, List.set_cons_zero, List.set_cons_succ]
        refine Reg.take 7 (v := ?_) rfl (by kernel_rfl) (fun _ _ _ h => h) rfl ?_ ?_
        rotate_left
        · intro W hW
          have q := L2.out W hW
          go_simp
          try with_reducible rfl
        try simp only [Act.put, List.setIfInBounds_toArray, List.set_cons_zero, List.set_cons_succ]
        refine Reg.do_ 8 rfl (by kernel_rfl) rfl (fun K hK => ?_)
        go_simp
        refine (same_v cs1 cs2 r s true HSm.out _ (I1.out.below (Below.refl _ wr).drew (Nat.le_refl _)) (I2.out.below (Below.refl _ wr).drew (Nat.le_refl _))).mono ?_
        rintro e w6 ⟨rfl, b6⟩
        have B6 : Hid (Below wr.heap.size wr w6) := (Below.refl _ wr).drew.trans b6
        refine hK.out _ _ b6 ?_
        clear hK K b6
        try simp only [Act.put, List.setIfInBounds_toArray, List.set_cons_zero, List.set_cons_succ]
        refine Reg.take 9 (v := ?_) rfl (by kernel_rfl) (fun _ _ _ h => h) rfl ?_ ?_
        rotate_left
        · intro W hW
          go_simp
          try with_reducible rfl
        try simp only [Act.put, List.setIfInBounds_toArray, List.set_cons_zero, List.set_cons_succ]
        refine Reg.done (by kernel_rfl) ?_
        go_wp2_with fail
        go_roundw
        case rel => exact ⟨i + 1, by omega, by go_num, HQ.out.trans (B6.out.mono HQ.out.size)⟩
        case measure => simp [intOf]; omega
      · obtain rfl : i = x := by omega
        have q0 := P6.out.f.cell 0
        have q1 := P6.out.f.cell 1
        simp only [List.getElem?_toArray, List.getElem?_cons_zero, List.getElem?_cons_succ] at q0 q1
        have B6 := Lib.hid P6.out.old
        obtain ⟨r, s, e1, e2, hsm⟩ := HDf.out
        have il1 : i < n := by have := (List.getElem?_eq_some_iff.1 e1).1; have := HN.out; omega
        have il2 : i < m := by have := (List.getElem?_eq_some_iff.1 e2).1; have := HM.out; omega
        obtain ⟨b1, o1, cs1, rfl, n1, i1, c1⟩ := P6.out.a i r e1
        obtain ⟨b2, o2, cs2, rfl, n2, i2, c2⟩ := P6.out.b i s e2
        have L1 : Hid (∀ W, Reg.SB wr.drew W → (loadRow 48 (.pointer (some ⟨b1, o1 + i * 12, none⟩))).run Try.prog W = .ok (.agg cs1) W) := fun W hW => load_rec (fun j v hv => (hW.old.cell (World.block_lt_of_cell? wr ⟨b1, o1 + i * 12 + j, none⟩ (c1 j v hv))).trans (c1 j v hv)) n1
        have L2 : Hid (∀ W, Reg.SB wr.drew W → (loadRow 48 (.pointer (some ⟨b2, o2 + i * 12, none⟩))).run Try.prog W = .ok (.agg cs2) W) := fun W hW => load_rec (fun j v hv => (hW.old.cell (World.block_lt_of_cell? wr ⟨b2, o2 + i * 12 + j, none⟩ (c2 j v hv))).trans (c2 j v hv)) n2
        have I1 := Lib.hid i1
        have I2 := Lib.hid i2
        have HSm := Lib.hid hsm
        have h1i : (i : Int) < (n : Int) := by omega
        have h2i : (i : Int) < (m : Int) := by omega
        have t1i : decide (i < n) = true := by simp; omega
        have t2i : decide (i < m) = true := by simp; omega
        have h0i : (0 : Int) ≤ (i : Int) := by omega
        clear c1 c2 n1 n2 i1 i2 hsm e1 e2 hlt
        go_wp2_with fail
        refine Reg.start (by kernel_rfl) ?_
        refine Reg.take 0 (v := ?_) rfl (by kernel_rfl) (fun _ _ _ h => h) rfl ?_ ?_
        rotate_left
        · intro W hW
          go_simp
          try with_reducible rfl
        try simp only [Act.put, List.setIfInBounds_toArray, List.set_cons_zero, List.set_cons_succ]
        refine Reg.take 1 (v := ?_) rfl (by kernel_rfl) (fun _ _ _ h => h) rfl ?_ ?_
        rotate_left
        · intro W hW
          go_simp
          try with_reducible rfl
        try simp only [Act.put, List.setIfInBounds_toArray, List.set_cons_zero, List.set_cons_succ]
        refine Reg.take 2 (v := ?_) rfl (by kernel_rfl) (fun _ _ _ h => h) rfl ?_ ?_
        rotate_left
        · intro W hW
          go_simp
          try with_reducible rfl
        try simp only [Act.put, List.setIfInBounds_toArray, List.set_cons_zero, List.set_cons_succ]
        refine Reg.take 3 (v := ?_) rfl (by kernel_rfl) (fun _ _ _ h => h) rfl ?_ ?_
        rotate_left
        · intro W hW
          go_simp
          try with_reducible rfl
        try simp only [Act.put, List.setIfInBounds_toArray, List.set_cons_zero, List.set_cons_succ]
        refine Reg.take 4 (v := ?_) rfl (by kernel_rfl) (fun _ _ _ h => h) rfl ?_ ?_
        rotate_left
        · intro W hW
          go_simp
          try with_reducible rfl
        try simp only [Act.put, List.setIfInBounds_toArray, List.set_cons_zero, List.set_cons_succ]
        refine Reg.take 5 (v := ?_) rfl (by kernel_rfl) (fun _ _ _ h => h) rfl ?_ ?_
        rotate_left
        · intro W hW
          go_simp
          try with_reducible rfl
        try simp only [Act.put, List.setIfInBounds_toArray, List.set_cons_zero, List.set_cons_succ]
        refine Reg.take 6 (v := ?_) rfl (by kernel_rfl) (fun _ _ _ h => h) rfl ?_ ?_
        rotate_left
        · intro W hW
          go_simp
          try with_reducible rfl
        try simp only [Act.put, List.setIfInBounds_toArray, List.set_cons_zero, List.set_cons_succ]
        refine Reg.take 7 (v := ?_) rfl (by kernel_rfl) (fun _ _ _ h => h) rfl ?_ ?_
        rotate_left
        · intro W hW
          go_simp
          try with_reducible rfl
        try simp only [Act.put, List.setIfInBounds_toArray, List.set_cons_zero, List.set_cons_succ]
        refine Reg.take 8 (v := ?_) rfl (by kernel_rfl) (fun _ _ _ h => h) rfl ?_ ?_
        rotate_left
        · intro W hW
          go_simp
          try with_reducible rfl
        try simp only [Act.put, List.setIfInBounds_toArray, List.set_cons_zero, List.set_cons_succ]
        refine Reg.take 9 (v := ?_) rfl (by kernel_rfl) (fun _ _ _ h => h) rfl ?_ ?_
        rotate_left
        · intro W hW
          go_simp
          try with_reducible rfl
        try simp only [Act.put, List.setIfInBounds_toArray, List.set_cons_zero, List.set_cons_succ]
        refine Reg.take 10 (v := ?_) rfl (by kernel_rfl) (fun _ _ _ h => h) rfl ?_ ?_
        rotate_left
        · intro W hW
          go_simp
          try with_reducible rfl
        try simp only [Act.put, List.setIfInBounds_toArray, List.set_cons_zero, List.set_cons_succ]
        refine Reg.take 11 (v := ?_) rfl (by kernel_rfl) (fun _ _ _ h => h) rfl ?_ ?_
        rotate_left
        · intro W hW
          go_simp
          try with_reducible rfl
        try simp only [Act.put, List.setIfInBounds_toArray, List.set_cons_zero, List.set_cons_succ]
        refine Reg.take 12 (v := ?_) rfl (by kernel_rfl) (fun _ _ _ h => h) rfl ?_ ?_
        rotate_left
        · intro W hW
          go_simp
          try with_reducible rfl
        try simp only [Act.put, List.setIfInBounds_toArray, List.set_cons_zero, List.set_cons_succ]
        refine Reg.take 13 (v := ?_) rfl (by kernel_rfl) (fun _ _ _ h => h) rfl ?_ ?_
        rotate_left
        · intro W hW
          go_simp
          try with_reducible rfl
        try simp only [Act.put, List.setIfInBounds_toArray, List.set_cons_zero, List.set_cons_succ]
        refine Reg.take 14 (v := ?_) rfl (by kernel_rfl) (fun _ _ _ h => h) rfl ?_ ?_
        rotate_left
        · intro W hW
          have q := L1.out W hW
          go_simp
          try with_reducible rfl
        try simp only [Act.put, List.setIfInBounds_toArray, List.set_cons_zero, List.set_cons_succ]
        refine Reg.take 15 (v := ?_) rfl (by kernel_rfl) (fun _ _ _ h => h) rfl ?_ ?_
        rotate_left
        · intro W hW
          go_simp
          try with_reducible rfl
        try simp only [Act.put, List.setIfInBounds_toArray, List.set_cons_zero, List.set_cons_succ]
        refine Reg.take 16 (v := ?_) rfl (by kernel_rfl) (fun _ _ _ h => h) rfl ?_ ?_
        rotate_left
        · intro W hW
          go_simp
          try with_reducible rfl
        try simp only [Act.put, List.setIfInBounds_toArray, List.set_cons_zero, List.set_cons_succ]
        refine Reg.take 17 (v := ?_) rfl (by kernel_rfl) (fun _ _ _ h => h) rfl ?_ ?_
        rotate_left
        · intro W hW
          go_simp
          try with_reducible rfl
        try simp only [Act.put, List.setIfInBounds_toArray, List.set_cons_zero, List.set_cons_succ]
        refine Reg.take 18 (v := ?_) rfl (by kernel_rfl) (fun _ _ _ h => h) rfl ?_ ?_
        rotate_left
        · intro W hW
          have q := L2.out W hW
          go_simp
          try with_reducible rfl
        try simp only [Act.put, List.setIfInBounds_toArray, List.set_cons_zero, List.set_cons_succ]
        refine Reg.do_ 19 rfl (by kernel_rfl) rfl (fun K hK => ?_)
        go_simp
        refine (same_v cs1 cs2 r s false HSm.out _ (I1.out.below (Below.refl _ wr).drew (Nat.le_refl _)) (I2.out.below (Below.refl _ wr).drew (Nat.le_refl _))).mono ?_
        rintro e w6 ⟨rfl, b6⟩
        have B6' : Hid (Below w.heap.size w w6) := B6.out.trans (((Below.refl _ wr).drew.trans b6).mono B6.out.size)
        refine hK.out _ _ b6 ?_
        clear hK K b6
        try simp only [Act.put, List.setIfInBounds_toArray, List.set_cons_zero, List.set_cons_succ]
        refine Reg.take 20 (v := ?_) rfl (by kernel_rfl) (fun _ _ _ h => h) rfl ?_ ?_
        rotate_left
        · intro W hW
          go_simp
          try with_reducible rfl
        try simp only [Act.put, List.setIfInBounds_toArray, List.set_cons_zero, List.set_cons_succ]
        refine Reg.take 21 (v := ?_) rfl (by kernel_rfl) (fun _ _ _ h => h) rfl ?_ ?_
        rotate_left
        · intro W hW
          go_simp
          try with_reducible rfl
        try simp only [Act.put, List.setIfInBounds_toArray, List.set_cons_zero, List.set_cons_succ]
        refine Reg.take 22 (v := ?_) rfl (by kernel_rfl) (fun _ _ _ h => h) rfl ?_ ?_
        rotate_left
        · intro W hW
          go_simp
          try with_reducible rfl
        try simp only [Act.put, List.setIfInBounds_toArray, List.set_cons_zero, List.set_cons_succ]
        refine Reg.do_ 23 rfl (by kernel_rfl) rfl (fun K hK => ?_)
        go_simp
        refine (awake_any _).mono ?_
        rintro e w7 ⟨rfl, b7⟩
        have B7 := Lib.hid (B6'.out.trans (b7.mono B6'.out.size))
        refine hK.out _ _ b7 ?_
        clear hK K b7
        try simp only [Act.put, List.setIfInBounds_toArray, List.set_cons_zero, List.set_cons_succ]
        refine Reg.take 24 (v := ?_) rfl (by kernel_rfl) (fun _ _ _ h => h) rfl ?_ ?_
        rotate_left
        · intro W hW
          go_simp
          try with_reducible rfl
        try simp only [Act.put, List.setIfInBounds_toArray, List.set_cons_zero, List.set_cons_succ]
        refine Reg.take 25 (v := ?_) rfl (by kernel_rfl) (fun _ _ _ h => h) rfl ?_ ?_
        rotate_left
        · intro W hW
          go_simp
          try with_reducible rfl
        try simp only [Act.put, List.setIfInBounds_toArray, List.set_cons_zero, List.set_cons_succ]
        refine Reg.done (by kernel_rfl) ?_
        go_wp2_with fail
        go_ret
        exact ⟨rfl, B7.out⟩
  · have hji : (n : Int) ≤ (j : Int) := by omega
    have hLT : Hid (loc (rs.take j) rs = (-1, 0)) := loc_whole (by have := HN.out; omega)
    go_wp2_with fail
    simp only [hmi]
    obtain ⟨W4, hW4⟩ : ∃ W4, W4 = w3.alloc (.cells #[.int .i64 (-1), .int .i64 0] 40) := ⟨_, rfl⟩
    have P4 : Hid (Pre w W4 A B rs ss g7 ((x : Int)) 29) := by rw [hW4]; exact P3.out.further ((Below.refl _ w3).alloc (Nat.le_refl _) _)
    have K4 : Hid (Blk W4 w3.heap.size 40 #[.int .i64 (-1), .int .i64 0]) := by rw [hW4]; exact Blk.new _ _ _
    rw [← hW4]
    clear hW4 P3
    generalize w3.heap.size = g9 at *
    obtain ⟨A2, c2, hcut, hAt⟩ := run_cut_pre (P := Try.prog) Try.underlying36 rec_size36 A n ca j (by omega)
    have HAt := Lib.hid hAt
    have P4d := Lib.hid (P4.out.further (Below.refl _ W4).drew)
    have h0j : (0 : Int) ≤ (j : Int) := by omega
    clear hAt hmi hji
    refine Reg.start (by kernel_rfl) ?_
    refine Reg.take 0 (v := ?_) rfl (by kernel_rfl) (fun _ _ _ h => h) rfl ?_ ?_
    rotate_left
    · intro W hW
      go_simp
      try with_reducible rfl
    try simp only [Act.put, List.setIfInBounds_toArray, List.set_cons_zero, List.set_cons_succ]
    refine Reg.take 1 (v := ?_) rfl (by kernel_rfl) (fun _ _ _ h => h) rfl ?_ ?_
    rotate_left
    · intro W hW
      go_simp
      try with_reducible rfl
    try simp only [Act.put, List.setIfInBounds_toArray, List.set_cons_zero, List.set_cons_succ]
    refine Reg.take 2 (v := ?_) rfl (by kernel_rfl) (fun _ _ _ h => h) rfl ?_ ?_
    rotate_left
    · intro W hW
      go_simp
      try with_reducible rfl
    try simp only [Act.put, List.setIfInBounds_toArray, List.set_cons_zero, List.set_cons_succ]
    refine Reg.take 3 (v := ?_) rfl (by kernel_rfl) (fun _ _ _ h => h) rfl ?_ ?_
    rotate_left
    · intro W hW
      go_simp
      try with_reducible rfl
    try simp only [Act.put, List.setIfInBounds_toArray, List.set_cons_zero, List.set_cons_succ]
    refine Reg.take 5 (v := ?_) rfl (by kernel_rfl) (fun _ _ _ h => h) rfl ?_ ?_
    rotate_left
    · intro W hW
      have hb := K4.out.below hW.old K4.out.lt
      have q0 : W.cell? ⟨g9, 0, none⟩ = some (.int .i64 (-1)) := hb.cell 0
      have q1 : W.cell? ⟨g9, 1, none⟩ = some (.int .i64 0) := hb.cell 1
      clear hb
      go_simp
      try with_reducible rfl
    try simp only [Act.put, List.setIfInBounds_toArray, List.set_cons_zero, List.set_cons_succ]
    refine Reg.do_ 4 rfl (by kernel_rfl) rfl (fun K hK => ?_)
    go_simp
    refine (locate_v (rs.take j) rs (-1) 0 hLT.out A2 A j n c2 ca _ (by rw [List.length_take]; have := HN.out; omega) HN.out (recSl_take j P4d.out.a HAt.out) P4d.out.a (by omega) (by omega)).mono ?_
    rintro e w5 ⟨rfl, b5⟩
    have P5 := Lib.hid (P4d.out.further b5)
    refine hK.out _ _ b5 ?_
    clear hK K b5
    try simp only [Act.put, List.setIfInBounds_toArray, List.set_cons_zero, List.set_cons_succ]
    refine Reg.take 6 (v := ?_) rfl (by kernel_rfl) (fun _ _ _ h => h) rfl ?_ ?_
    rotate_left
    · intro W hW
      go_simp
      try with_reducible rfl
    try simp only [Act.put, List.setIfInBounds_toArray, List.set_cons_zero, List.set_cons_succ]
    refine Reg.done (by kernel_rfl) ?_
    have q0 : w5.cell? ⟨g7, 0, none⟩ = some (.int .i64 ((x : Int))) := P5.out.f.cell 0
    have q1 : w5.cell? ⟨g7, 1, none⟩ = some (.int .i64 29) := P5.out.f.cell 1
    clear hcut P4 P4d K4
    have tn : decide (n < x) = false := by simp; omega
    have tm : decide (m < x) = false := by simp; omega
    have t0 : decide ((x : Int) < 0) = false := by simp <;> omega
    go_wp2_with fail
    go_loopw [11] (fun v wr => ∃ i : Nat, i ≤ x ∧ v = .int .i64 i ∧ Hid (Below w5.heap.size w5 wr)) (fun v _ => x - (intOf v).toNat)
    case atStart => exact ⟨0, by omega, rfl, Below.refl _ _⟩
    case round =>
      obtain ⟨i, hi, rfl, HQ⟩ := hrel
      have P6 := Lib.hid (P5.out.further HQ.out)
      by_cases hlt : i < x
      · obtain ⟨r, s, e1, e2, hsm⟩ := HST.out i hlt
        have il1 : i < n := by have := (List.getElem?_eq_some_iff.1 e1).1; have := HN.out; omega
        have il2 : i < m := by have := (List.getElem?_eq_some_iff.1 e2).1; have := HM.out; omega
        obtain ⟨b1, o1, cs1, rfl, n1, i1, c1⟩ := P6.out.a i r e1
        obtain ⟨b2, o2, cs2, rfl, n2, i2, c2⟩ := P6.out.b i s e2
        have L1 : Hid (∀ W, Reg.SB wr.drew W → (loadRow 48 (.pointer (some ⟨b1, o1 + i * 12, none⟩))).run Try.prog W = .ok (.agg cs1) W) := fun W hW => load_rec (fun j v hv => (hW.old.cell (World.block_lt_of_cell? wr ⟨b1, o1 + i * 12 + j, none⟩ (c1 j v hv))).trans (c1 j v hv)) n1
        have L2 : Hid (∀ W, Reg.SB wr.drew W → (loadRow 48 (.pointer (some ⟨b2, o2 + i * 12, none⟩))).run Try.prog W = .ok (.agg cs2) W) := fun W hW => load_rec (fun j v hv => (hW.old.cell (World.block_lt_of_cell? wr ⟨b2, o2 + i * 12 + j, none⟩ (c2 j v hv))).trans (c2 j v hv)) n2
        have I1 := Lib.hid i1
        have I2 := Lib.hid i2
        have HSm := Lib.hid hsm
        have h1i : (i : Int) < (n : Int) := by omega
        have h2i : (i : Int) < (m : Int) := by omega
        have h0i : (0 : Int) ≤ (i : Int) := by omega
        clear c1 c2 n1 n2 i1 i2 hsm e1 e2
        go_wp2_with fail
        refine Reg.start (by kernel_rfl) ?_
        refine Reg.take 0 (v := ?_) rfl (by kernel_rfl) (fun _ _ _ h => h) rfl ?_ ?_
        rotate_left
        · intro W hW
          go_simp
          try with_reducible rfl
        try simp only [Act.put, List.setIfInBounds_toArray, List.set_cons_zero, List.set_cons_succ]
        refine Reg.take 1 (v := ?_) rfl (by kernel_rfl) (fun _ _ _ h => h) rfl ?_ ?_
        rotate_left
        · intro W hW
          go_simp
          try with_reducible rfl
        try simp only [Act.put, List.setIfInBounds_toArray, List.set_cons_zero, List.set_cons_succ]
        refine Reg.take 2 (v := ?_) rfl (by kernel_rfl) (fun _ _ _ h => h) rfl ?_ ?_
        rotate_left
        · intro W hW
          go_simp
          try with_reducible rfl
        try simp only [Act.put, List.setIfInBounds_toArray, List.set_cons_zero, List.set_cons_succ]
        refine Reg.take 3 (v := ?_) rfl (by kernel_rfl) (fun _ _ _ h => h) rfl ?_ ?_
        rotate_left
        · intro W hW
          have q := L1.out W hW
          go_simp
          try with_reducible rfl
        try simp only [Act.put, List.setIfInBounds_toArray, List.set_cons_zero, List.set_cons_succ]
        refine Reg.take 4 (v := ?_) rfl (by kernel_rfl) (fun _ _ _ h => h) rfl ?_ ?_
        rotate_left
        · intro W hW
          go_simp
          try with_reducible rfl
        try simp only [Act.put, List.setIfInBounds_toArray, List.set_cons_zero, List.set_cons_succ]
        refine Reg.take 5 (v := ?_) rfl (by kernel_rfl) (fun _ _ _ h => h) rfl ?_ ?_
        rotate_left
        · intro W hW
          go_simp
          try with_reducible rfl
        try simp only [Act.put, List.setIfInBounds_toArray, List.set_cons_zero, List.set_cons_succ]
        refine Reg.take 6 (v := ?_) rfl (by kernel_rfl) (fun _ _ _ h => h) rfl ?_ ?_
        rotate_left
        · intro W hW
          go_simp
          try with_reducible rfl
        try simp only [Act.put, List.setIfInBounds_toArray, List.set_cons_zero, List.set_cons_succ]
        refine Reg.take 7 (v := ?_) rfl (by kernel_rfl) (fun _ _ _ h => h) rfl ?_ ?_
        rotate_left
        · intro W hW
          have q := L2.out W hW
          go_simp
          try with_reducible rfl
        try simp only [Act.put, List.setIfInBounds_toArray, List.set_cons_zero, List.set_cons_succ]
        refine Reg.do_ 8 rfl (by kernel_rfl) rfl (fun K hK => ?_)
        go_simp
        refine (same_v cs1 cs2 r s true HSm.out _ (I1.out.below (Below.refl _ wr).drew (Nat.le_refl _)) (I2.out.below (Below.refl _ wr).drew (Nat.le_refl _))).mono ?_
        rintro e w6 ⟨rfl, b6⟩
        have B6 : Hid (Below wr.heap.size wr w6) := (Below.refl _ wr).drew.trans b6
        refine hK.out _ _ b6 ?_
        clear hK K b6
        try simp only [Act.put, List.setIfInBounds_toArray, List.set_cons_zero, List.set_cons_succ]
        refine Reg.take 9 (v := ?_) rfl (by kernel_rfl) (fun _ _ _ h => h) rfl ?_ ?_
        rotate_left
        · intro W hW
          go_simp
          try with_reducible rfl
        try simp only [Act.put, List.setIfInBounds_toArray, List.set_cons_zero, List.set_cons_succ]
        refine Reg.done (by kernel_rfl) ?_
        go_wp2_with fail
        go_roundw
        case rel => exact ⟨i + 1, by omega, by go_num, HQ.out.trans (B6.out.mono HQ.out.size)⟩
        case measure => simp [intOf]; omega
      · obtain rfl : i = x := by omega
        have q0 := P6.out.f.cell 0
        have q1 := P6.out.f.cell 1
        simp only [List.getElem?_toArray, List.getElem?_cons_zero, List.getElem?_cons_succ] at q0 q1
        have B6 := Lib.hid P6.out.old
        obtain ⟨r, s, e1, e2, hsm⟩ := HDf.out
        have il1 : i < n := by have := (List.getElem?_eq_some_iff.1 e1).1; have := HN.out; omega
        have il2 : i < m := by have := (List.getElem?_eq_some_iff.1 e2).1; have := HM.out; omega
        obtain ⟨b1, o1, cs1, rfl, n1, i1, c1⟩ := P6.out.a i r e1
        obtain ⟨b2, o2, cs2, rfl, n2, i2, c2⟩ := P6.out.b i s e2
        have L1 : Hid (∀ W, Reg.SB wr.drew W → (loadRow 48 (.pointer (some ⟨b1, o1 + i * 12, none⟩))).run Try.prog W = .ok (.agg cs1) W) := fun W hW => load_rec (fun j v hv => (hW.old.cell (World.block_lt_of_cell? wr ⟨b1, o1 + i * 12 + j, none⟩ (c1 j v hv))).trans (c1 j v hv)) n1
        have L2 : Hid (∀ W, Reg.SB wr.drew W → (loadRow 48 (.pointer (some ⟨b2, o2 + i * 12, none⟩))).run Try.prog W = .ok (.agg cs2) W) := fun W hW => load_rec (fun j v hv => (hW.old.cell (World.block_lt_of_cell? wr ⟨b2, o2 + i * 12 + j, none⟩ (c2 j v hv))).trans (c2 j v hv)) n2
        have I1 := Lib.hid i1
        have I2 := Lib.hid i2
        have HSm := Lib.hid hsm
        have h1i : (i : Int) < (n : Int) := by omega
        have h2i : (i : Int) < (m : Int) := by omega
        have t1i : decide (i < n) = true := by simp; omega
        have t2i : decide (i < m) = true := by simp; omega
        have h0i : (0 : Int) ≤ (i : Int) := by omega
        clear c1 c2 n1 n2 i1 i2 hsm e1 e2 hlt
        go_wp2_with fail
        refine Reg.start (by kernel_rfl) ?_
        refine Reg.take 0 (v := ?_) rfl (by kernel_rfl) (fun _ _ _ h => h) rfl ?_ ?_
        rotate_left
        · intro W hW
          go_simp
          try with_reducible rfl
        try simp only [Act.put, List.setIfInBounds_toArray, List.set_cons_zero, List.set_cons_succ]
        refine Reg.take 1 (v := ?_) rfl (by kernel_rfl) (fun _ _ _ h => h) rfl ?_ ?_
        rotate_left
        · intro W hW
          go_simp
          try with_reducible rfl
        try simp only [Act.put, List.setIfInBounds_toArray, List.set_cons_zero, List.set_cons_succ]
        refine Reg.take 2 (v := ?_) rfl (by kernel_rfl) (fun _ _ _ h => h) rfl ?_ ?_
        rotate_left
        · intro W hW
          go_simp
          try with_reducible rfl
        try simp only [Act.put, List.setIfInBounds_toArray, List.set_cons_zero, List.set_cons_succ]
        refine Reg.take 3 (v := ?_) rfl (by kernel_rfl) (fun _ _ _ h => h) rfl ?_ ?_
        rotate_left
        · intro W hW
          go_simp
          try with_reducible rfl
        try simp only [Act.put, List.setIfInBounds_toArray, List.set_cons_zero, List.set_cons_succ]
        refine Reg.take 4 (v := ?_) rfl (by kernel_rfl) (fun _ _ _ h => h) rfl ?_ ?_
        rotate_left
        · intro W hW
          go_simp
          try with_reducible rfl
        try simp only [Act.put, List.setIfInBounds_toArray, List.set_cons_zero, List.set_cons_succ]
        refine Reg.take 5 (v := ?_) rfl (by kernel_rfl) (fun _ _ _ h => h) rfl ?_ ?_
        rotate_left
        · intro W hW
          go_simp
          try with_reducible rfl
        try simp only [Act.put, List.setIfInBounds_toArray, List.set_cons_zero, List.set_cons_succ]
        refine Reg.take 6 (v := ?_) rfl (by kernel_rfl) (fun _ _ _ h => h) rfl ?_ ?_
        rotate_left
        · intro W hW
          go_simp
          try with_reducible rfl
        try simp only [Act.put, List.setIfInBounds_toArray, List.set_cons_zero, List.set_cons_succ]
        refine Reg.take 7 (v := ?_) rfl (by kernel_rfl) (fun _ _ _ h => h) rfl ?_ ?_
        rotate_left
        · intro W hW
          go_simp
          try with_reducible rfl
        try simp only [Act.put, List.setIfInBounds_toArray, List.set_cons_zero, List.set_cons_succ]
        refine Reg.take 8 (v := ?_) rfl (by kernel_rfl) (fun _ _ _ h => h) rfl ?_ ?_
        rotate_left
        · intro W hW
          go_simp
          try with_reducible rfl
        try simp only [Act.put, List.setIfInBounds_toArray, List.set_cons_zero, List.set_cons_succ]
        refine Reg.take 9 (v := ?_) rfl (by kernel_rfl) (fun _ _ _ h => h) rfl ?_ ?_
        rotate_left
        · intro W hW
          go_simp
          try with_reducible rfl
        try simp only [Act.put, List.setIfInBounds_toArray, List.set_cons_zero, List.set_cons_succ]
        refine Reg.take 10 (v := ?_) rfl (by kernel_rfl) (fun _ _ _ h => h) rfl ?_ ?_
        rotate_left
        · intro W hW
          go_simp
          try with_reducible rfl
        try simp only [Act.put, List.setIfInBounds_toArray, List.set_cons_zero, List.set_cons_succ]
        refine Reg.take 11 (v := ?_) rfl (by kernel_rfl) (fun _ _ _ h => h) rfl ?_ ?_
        rotate_left
        · intro W hW
          go_simp
          try with_reducible rfl
        try simp only [Act.put, List.setIfInBounds_toArray, List.set_cons_zero, List.set_cons_succ]
        refine Reg.take 12 (v := ?_) rfl (by kernel_rfl) (fun _ _ _ h => h) rfl ?_ ?_
        rotate_left
        · intro W hW
          go_simp
          try with_reducible rfl
        try simp only [Act.put, List.setIfInBounds_toArray, List.set_cons_zero, List.set_cons_succ]
        refine Reg.take 13 (v := ?_) rfl (by kernel_rfl) (fun _ _ _ h => h) rfl ?_ ?_
        rotate_left
        · intro W hW
          go_simp
          try with_reducible rfl
        try simp only [Act.put, List.setIfInBounds_toArray, List.set_cons_zero, List.set_cons_succ]
        refine Reg.take 14 (v := ?_) rfl (by kernel_rfl) (fun _ _ _ h => h) rfl ?_ ?_
        rotate_left
        · intro W hW
          have q := L1.out W hW
          go_simp
          try with_reducible rfl
        try simp only [Act.put, List.setIfInBounds_toArray, List.set_cons_zero, List.set_cons_succ]
        refine Reg.take 15 (v := ?_) rfl (by kernel_rfl) (fun _ _ _ h => h) rfl ?_ ?_
        rotate_left
        · intro W hW
          go_simp
          try with_reducible rfl
        try simp only [Act.put, List.setIfInBounds_toArray, List.set_cons_zero, List.set_cons_succ]
        refine Reg.take 16 (v := ?_) rfl (by kernel_rfl) (fun _ _ _ h => h) rfl ?_ ?_
        rotate_left
        · intro W hW
          go_simp
          try with_reducible rfl
        try simp only [Act.put, List.setIfInBounds_toArray, List.set_cons_zero, List.set_cons_succ]
        refine Reg.take 17 (v := ?_) rfl (by kernel_rfl) (fun _ _ _ h => h) rfl ?_ ?_
        rotate_left
        · intro W hW
          go_simp
          try with_reducible rfl
        try simp only [Act.put, List.setIfInBounds_toArray, List.set_cons_zero, List.set_cons_succ]
        refine Reg.take 18 (v := ?_) rfl (by kernel_rfl) (fun _ _ _ h => h) rfl ?_ ?_
        rotate_left
        · intro W hW
          have q := L2.out W hW
          go_simp
          try with_reducible rfl
        try simp only [Act.put, List.setIfInBounds_toArray, List.set_cons_zero, List.set_cons_succ]
        refine Reg.do_ 19 rfl (by kernel_rfl) rfl (fun K hK => ?_)
        go_simp
        refine (same_v cs1 cs2 r s false HSm.out _ (I1.out.below (Below.refl _ wr).drew (Nat.le_refl _)) (I2.out.below (Below.refl _ wr).drew (Nat.le_refl _))).mono ?_
        rintro e w6 ⟨rfl, b6⟩
        have B6' : Hid (Below w.heap.size w w6) := B6.out.trans (((Below.refl _ wr).drew.trans b6).mono B6.out.size)
        refine hK.out _ _ b6 ?_
        clear hK K b6
        try simp only [Act.put, List.setIfInBounds_toArray, List.set_cons_zero, List.set_cons_succ]
        refine Reg.take 20 (v := ?_) rfl (by kernel_rfl) (fun _ _ _ h => h) rfl ?_ ?_
        rotate_left
        · intro W hW
          go_simp
          try with_reducible rfl
        try simp only [Act.put, List.setIfInBounds_toArray, List.set_cons_zero, List.set_cons_succ]
        refine Reg.take 21 (v := ?_) rfl (by kernel_rfl) (fun _ _ _ h => h) rfl ?_ ?_
        rotate_left
        · intro W hW
          go_simp
          try with_reducible rfl
        try simp only [Act.put, List.setIfInBounds_toArray, List.set_cons_zero, List.set_cons_succ]
        refine Reg.take 22 (v := ?_) rfl (by kernel_rfl) (fun _ _ _ h => h) rfl ?_ ?_
        rotate_left
        · intro W hW
          go_simp
          try with_reducible rfl
        try simp only [Act.put, List.setIfInBounds_toArray, List.set_cons_zero, List.set_cons_succ]
        refine Reg.do_ 23 rfl (by kernel_rfl) rfl (fun K hK => ?_)
        go_simp
        refine (awake_any _).mono ?_
        rintro e w7 ⟨rfl, b7⟩
        have B7 := Lib.hid (B6'.out.trans (b7.mono B6'.out.size))
        refine hK.out _ _ b7 ?_
        clear hK K b7
        try simp only [Act.put, List.setIfInBounds_toArray, List.set_cons_zero, List.set_cons_succ]
        refine Reg.take 24 (v := ?_) rfl (by kernel_rfl) (fun _ _ _ h => h) rfl ?_ ?_
        rotate_left
        · intro W hW
          go_simp
          try with_reducible rfl
        try simp only [Act.put, List.setIfInBounds_toArray, List.set_cons_zero, List.set_cons_succ]
        refine Reg.take 25 (v := ?_) rfl (by kernel_rfl) (fun _ _ _ h => h) rfl ?_ ?_
        rotate_left
        · intro W hW
          go_simp
          try with_reducible rfl
        try simp only [Act.put, List.setIfInBounds_toArray, List.set_cons_zero, List.set_cons_succ]
        refine Reg.done (by kernel_rfl) ?_
        go_wp2_with fail
        go_ret
        exact ⟨rfl, B7.out⟩

set_option maxRecDepth 100000 in
set_option maxHeartbeats 8000000 in
theorem prefix_28 (rs ss : List Rec) (A B : Option Addr) (n m ca cb z : Nat) (w : World) (hn : rs.length = n) (hm : ss.length = m) (ha : RecSl w A rs) (hb : RecSl w B ss) (h1 : n ≤ 30) (h2 : m ≤ 30) (hca : n ≤ ca) (hz : z < 256) (x : Nat) (hv : loc rs ss = ((x : Int), 28)) (hnm : n ≠ m) (hx : x = min n m) (hst : SameTo rs ss x) (CY : Hid (∀ W, RecSl W A rs → RecSl W B ss → Calls Try.prog 19 #[.slice A n ca] W fun e w' => e = .returned (.bool true) ∧ W = w') ∧ Hid (∀ W, RecSl W A rs → RecSl W B ss → Calls Try.prog 19 #[.slice B m cb] W fun e w' => e = .returned (.bool true) ∧ W = w')) :
    Calls Try.prog 8 #[.slice A n ca, .slice B m cb, .int .u8 (z : Int)] w fun e w' => e = .returned (.bool true) ∧ Below w.heap.size w w' := by
  have HN := Lib.hid hn
  have HM := Lib.hid hm
  have HA := Lib.hid ha
  have HB := Lib.hid hb
  have HV := Lib.hid hv
  have HST := Lib.hid hst
  have HX := Lib.hid hx
  clear hx
  have hmod : z % (n + 1) < n + 1 := Nat.mod_lt _ (by omega)
  have hmi : (z : Int) % ((n : Int) + 1) = ((z % (n + 1) : Nat) : Int) := by rw [Int.natCast_emod, Int.natCast_add]; rfl
  obtain ⟨j, hj⟩ : ∃ j, j = z % (n + 1) := ⟨_, rfl⟩
  rw [← hj] at hmod hmi
  obtain ⟨CA, CB⟩ := CY
  clear hn hm ha hb hv hst hj
  go_enter Try.func8, Try.ntmps8
  go_wp2_with fail
  refine (CA.out _ HA.out HB.out).mono ?_
  rintro e w' ⟨rfl, rfl⟩
  go_wp2_with fail
  refine (CB.out _ HA.out HB.out).mono ?_
  rintro e w' ⟨rfl, rfl⟩
  go_wp2_with fail
  refine (locate_v rs ss ((x : Int)) 28 HV.out A B n m ca cb _ HN.out HM.out HA.out HB.out (by omega) (by omega)).mono ?_
  rintro e w1 ⟨rfl, b1⟩
  have B1 := Lib.hid b1
  clear b1 CA CB
  go_wp2_with fail
  obtain ⟨W1, hW1⟩ : ∃ W1, W1 = w1.alloc (.cells #[.int .i64 ((x : Int)), .int .i64 28] 40) := ⟨_, rfl⟩
  have P1 : Hid (Pre w W1 A B rs ss w1.heap.size ((x : Int)) 28) := by
    rw [hW1]
    exact ⟨(HA.out.below B1.out (Nat.le_refl _)).below ((Below.refl _ w1).alloc (Nat.le_refl _) _) (Nat.le_refl _), (HB.out.below B1.out (Nat.le_refl _)).below ((Below.refl _ w1).alloc (Nat.le_refl _) _) (Nat.le_refl _), Blk.new _ _ _, B1.out.alloc B1.out.size _⟩
  rw [← hW1]
  clear hW1 B1
  generalize w1.heap.size = g7 at *
  have P1d := Lib.hid (P1.out.further (Below.refl _ W1).drew)
  refine Reg.start (by kernel_rfl) ?_
  refine Reg.take 0 (v := ?_) rfl (by kernel_rfl) (fun _ _ _ h => h) rfl ?_ ?_
  rotate_left
  · intro W hW
    have hb := (P1d.out.further hW.all).f
    have q0 : W.cell? ⟨g7, 0, none⟩ = some (.int .i64 ((x : Int))) := hb.cell 0
    have q1 : W.cell? ⟨g7, 1, none⟩ = some (.int .i64 28) := hb.cell 1
    clear hb
    go_simp
    try with_reducible rfl
  try simp only [Act.put, List.setIfInBounds_toArray, List.set_cons_zero, List.set_cons_succ]
  refine Reg.take 1 (v := ?_) rfl (by kernel_rfl) (fun _ _ _ h => h) rfl ?_ ?_
  rotate_left
  · intro W hW
    go_simp
    try with_reducible rfl
  try simp only [Act.put, List.setIfInBounds_toArray, List.set_cons_zero, List.set_cons_succ]
  refine Reg.take 2 (v := ?_) rfl (by kernel_rfl) (fun _ _ _ h => h) rfl ?_ ?_
  rotate_left
  · intro W hW
    go_simp
    try with_reducible rfl
  try simp only [Act.put, List.setIfInBounds_toArray, List.set_cons_zero, List.set_cons_succ]
  refine Reg.do_ 3 rfl (by kernel_rfl) rfl (fun K hK => ?_)
  go_simp
  refine (locate_v ss rs ((x : Int)) 28 (by rw [loc_sym]; exact HV.out) B A m n cb ca _ HM.out HN.out P1d.out.b P1d.out.a (by omega) (by omega)).mono ?_
  rintro e w2 ⟨rfl, b2⟩
  have P2 := Lib.hid (P1d.out.further b2)
  refine hK.out _ _ b2 ?_
  clear hK K b2
  try simp only [Act.put, List.setIfInBounds_toArray, List.set_cons_zero, List.set_cons_succ]
  refine Reg.take 4 (v := ?_) rfl (by kernel_rfl) (fun _ _ _ h => h) rfl ?_ ?_
  rotate_left
  · intro W hW
    go_simp
    try with_reducible rfl
  try simp only [Act.put, List.setIfInBounds_toArray, List.set_cons_zero, List.set_cons_succ]
  refine Reg.take 5 (v := ?_) rfl (by kernel_rfl) (fun _ _ _ h => h) rfl ?_ ?_
  rotate_left
  · intro W hW
    go_simp
    try with_reducible rfl
  try simp only [Act.put, List.setIfInBounds_toArray, List.set_cons_zero, List.set_cons_succ]
  refine Reg.take 6 (v := ?_) rfl (by kernel_rfl) (fun _ _ _ h => h) rfl ?_ ?_
  rotate_left
  · intro W hW
    go_simp
    try with_reducible rfl
  try simp only [Act.put, List.setIfInBounds_toArray, List.set_cons_zero, List.set_cons_succ]
  refine Reg.take 7 (v := ?_) rfl (by kernel_rfl) (fun _ _ _ h => h) rfl ?_ ?_
  rotate_left
  · intro W hW
    go_simp
    try with_reducible rfl
  try simp only [Act.put, List.setIfInBounds_toArray, List.set_cons_zero, List.set_cons_succ]
  refine Reg.take 9 (v := ?_) rfl (by kernel_rfl) (fun _ _ _ h => h) rfl ?_ ?_
  rotate_left
  · intro W hW
    go_simp
    try with_reducible rfl
  try simp only [Act.put, List.setIfInBounds_toArray, List.set_cons_zero, List.set_cons_succ]
  refine Reg.do_ 8 rfl (by kernel_rfl) rfl (fun K hK => ?_)
  go_simp
  refine (locate_v rs rs (-1) 0 (loc_self rs) A A n n ca ca _ HN.out HN.out P2.out.a P2.out.a (by omega) (by omega)).mono ?_
  rintro e w3 ⟨rfl, b3⟩
  have P3 := Lib.hid (P2.out.further b3)
  refine hK.out _ _ b3 ?_
  clear hK K b3
  try simp only [Act.put, List.setIfInBounds_toArray, List.set_cons_zero, List.set_cons_succ]
  refine Reg.take 10 (v := ?_) rfl (by kernel_rfl) (fun _ _ _ h => h) rfl ?_ ?_
  rotate_left
  · intro W hW
    go_simp
    try with_reducible rfl
  try simp only [Act.put, List.setIfInBounds_toArray, List.set_cons_zero, List.set_cons_succ]
  refine Reg.take 11 (v := ?_) rfl (by kernel_rfl) (fun _ _ _ h => h) rfl ?_ ?_
  rotate_left
  · intro W hW
    go_simp
    try with_reducible rfl
  try simp only [Act.put, List.setIfInBounds_toArray, List.set_cons_zero, List.set_cons_succ]
  refine Reg.done (by kernel_rfl) ?_
  clear P1 P1d P2
  by_cases hjn : j < n
  · have hji : (j : Int) < (n : Int) := by omega
    have hLT : Hid (loc (rs.take j) rs = ((j : Int), 28)) := loc_take (by have := HN.out; omega)
    go_wp2_with fail
    simp only [hmi]
    obtain ⟨W4, hW4⟩ : ∃ W4, W4 = w3.alloc (.cells #[.int .i64 (j : Int), .int .i64 28] 40) := ⟨_, rfl⟩
    have P4 : Hid (Pre w W4 A B rs ss g7 ((x : Int)) 28) := by rw [hW4]; exact P3.out.further ((Below.refl _ w3).alloc (Nat.le_refl _) _)
    have K4 : Hid (Blk W4 w3.heap.size 40 #[.int .i64 (j : Int), .int .i64 28]) := by rw [hW4]; exact Blk.new _ _ _
    rw [← hW4]
    clear hW4 P3
    generalize w3.heap.size = g9 at *
    obtain ⟨A2, c2, hcut, hAt⟩ := run_cut_pre (P := Try.prog) Try.underlying36 rec_size36 A n ca j (by omega)
    have HAt := Lib.hid hAt
    have P4d := Lib.hid (P4.out.further (Below.refl _ W4).drew)
    have h0j : (0 : Int) ≤ (j : Int) := by omega
    clear hAt hmi hji
    refine Reg.start (by kernel_rfl) ?_
    refine Reg.take 0 (v := ?_) rfl (by kernel_rfl) (fun _ _ _ h => h) rfl ?_ ?_
    rotate_left
    · intro W hW
      go_simp
      try with_reducible rfl
    try simp only [Act.put, List.setIfInBounds_toArray, List.set_cons_zero, List.set_cons_succ]
    refine Reg.take 1 (v := ?_) rfl (by kernel_rfl) (fun _ _ _ h => h) rfl ?_ ?_
    rotate_left
    · intro W hW
      go_simp
      try with_reducible rfl
    try simp only [Act.put, List.setIfInBounds_toArray, List.set_cons_zero, List.set_cons_succ]
    refine Reg.take 2 (v := ?_) rfl (by kernel_rfl) (fun _ _ _ h => h) rfl ?_ ?_
    rotate_left
    · intro W hW
      go_simp
      try with_reducible rfl
    try simp only [Act.put, List.setIfInBounds_toArray, List.set_cons_zero, List.set_cons_succ]
    refine Reg.take 3 (v := ?_) rfl (by kernel_rfl) (fun _ _ _ h => h) rfl ?_ ?_
    rotate_left
    · intro W hW
      go_simp
      try with_reducible rfl
    try simp only [Act.put, List.setIfInBounds_toArray, List.set_cons_zero, List.set_cons_succ]
    refine Reg.take 5 (v := ?_) rfl (by kernel_rfl) (fun _ _ _ h => h) rfl ?_ ?_
    rotate_left
    · intro W hW
      have hb := K4.out.below hW.old K4.out.lt
      have q0 : W.cell? ⟨g9, 0, none⟩ = some (.int .i64 (j : Int)) := hb.cell 0
      have q1 : W.cell? ⟨g9, 1, none⟩ = some (.int .i64 28) := hb.cell 1
      clear hb
      go_simp
      try with_reducible rfl
    try simp only [Act.put, List.setIfInBounds_toArray, List.set_cons_zero, List.set_cons_succ]
    refine Reg.do_ 4 rfl (by kernel_rfl) rfl (fun K hK => ?_)
    go_simp
    refine (locate_v (rs.take j) rs (j : Int) 28 hLT.out A2 A j n c2 ca _ (by rw [List.length_take]; have := HN.out; omega) HN.out (recSl_take j P4d.out.a HAt.out) P4d.out.a (by omega) (by omega)).mono ?_
    rintro e w5 ⟨rfl, b5⟩
    have P5 := Lib.hid (P4d.out.further b5)
    refine hK.out _ _ b5 ?_
    clear hK K b5
    try simp only [Act.put, List.setIfInBounds_toArray, List.set_cons_zero, List.set_cons_succ]
    refine Reg.take 6 (v := ?_) rfl (by kernel_rfl) (fun _ _ _ h => h) rfl ?_ ?_
    rotate_left
    · intro W hW
      go_simp
      try with_reducible rfl
    try simp only [Act.put, List.setIfInBounds_toArray, List.set_cons_zero, List.set_cons_succ]
    refine Reg.done (by kernel_rfl) ?_
    have q0 : w5.cell? ⟨g7, 0, none⟩ = some (.int .i64 ((x : Int))) := P5.out.f.cell 0
    have q1 : w5.cell? ⟨g7, 1, none⟩ = some (.int .i64 28) := P5.out.f.cell 1
    clear hcut P4 P4d K4
    have tn : decide (n < x) = false := by simp; have := HX.out; omega
    have tm : decide (m < x) = false := by simp; have := HX.out; omega
    have t0 : decide ((x : Int) < 0) = false := by simp <;> omega
    go_wp2_with fail
    go_loopw [11] (fun v wr => ∃ i : Nat, i ≤ x ∧ v = .int .i64 i ∧ Hid (Below w5.heap.size w5 wr)) (fun v _ => x - (intOf v).toNat)
    case atStart => exact ⟨0, by omega, rfl, Below.refl _ _⟩
    case round =>
      obtain ⟨i, hi, rfl, HQ⟩ := hrel
      have P6 := Lib.hid (P5.out.further HQ.out)
      by_cases hlt : i < x
      · obtain ⟨r, s, e1, e2, hsm⟩ := HST.out i hlt
        have il1 : i < n := by have := (List.getElem?_eq_some_iff.1 e1).1; have := HN.out; omega
        have il2 : i < m := by have := (List.getElem?_eq_some_iff.1 e2).1; have := HM.out; omega
        obtain ⟨b1, o1, cs1, rfl, n1, i1, c1⟩ := P6.out.a i r e1
        obtain ⟨b2, o2, cs2, rfl, n2, i2, c2⟩ := P6.out.b i s e2
        have L1 : Hid (∀ W, Reg.SB wr.drew W → (loadRow 48 (.pointer (some ⟨b1, o1 + i * 12, none⟩))).run Try.prog W = .ok (.agg cs1) W) := fun W hW => load_rec (fun j v hv => (hW.old.cell (World.block_lt_of_cell? wr ⟨b1, o1 + i * 12 + j, none⟩ (c1 j v hv))).trans (c1 j v hv)) n1
        have L2 : Hid (∀ W, Reg.SB wr.drew W → (loadRow 48 (.pointer (some ⟨b2, o2 + i * 12, none⟩))).run Try.prog W = .ok (.agg cs2) W) := fun W hW => load_rec (fun j v hv => (hW.old.cell (World.block_lt_of_cell? wr ⟨b2, o2 + i * 12 + j, none⟩ (c2 j v hv))).trans (c2 j v hv)) n2
        have I1 := Lib.hid i1
        have I2 := Lib.hid i2
        have HSm := Lib.hid hsm
        have h1i : (i : Int) < (n : Int) := by omega
        have h2i : (i : Int) < (m : Int) := by omega
        have h0i : (0 : Int) ≤ (i : Int) := by omega
        clear c1 c2 n1 n2 i1 i2 hsm e1 e2
        go_wp2_with fail
        refine Reg.start (by kernel_rfl) ?_
        refine Reg.take 0 (v := ?_) rfl (by kernel_rfl) (fun _ _ _ h => h) rfl ?_ ?_
        rotate_left
        · intro W hW
          go_simp
          try with_reducible rfl
        try simp only [Act.put, List.setIfInBounds_toArray, List.set_cons_zero, List.set_cons_succ]
        refine Reg.take 1 (v := ?_) rfl (by kernel_rfl) (fun _ _ _ h => h) rfl ?_ ?_
        rotate_left
        · intro W hW
          go_simp
          try with_reducible rfl
        try simp only [Act.put, List.setIfInBounds_toArray, List.set_cons_zero, List.set_cons_succ]
        refine Reg.take 2 (v := ?_) rfl (by kernel_rfl) (fun _ _ _ h => h) rfl ?_ ?_
        rotate_left
        · intro W hW
          go_simp
          try with_reducible rfl
        try simp only [Act.put, List.setIfInBounds_toArray, List.set_cons_zero, List.set_cons_succ]
        refine Reg.take 3 (v := ?_) rfl (by kernel_rfl) (fun _ _ _ h => h) rfl ?_ ?_
        rotate_left
        · intro W hW
          have q := L1.out W hW
          go_simp
          try with_reducible rfl
        try simp only [Act.put, List.setIfInBounds_toArray, List.set_cons_zero, List.set_cons_succ]
        refine Reg.take 4 (v := ?_) rfl (by kernel_rfl) (fun _ _ _ h => h) rfl ?_ ?_
        rotate_left
        · intro W hW
          go_simp
          try with_reducible rfl
        try simp only [Act.put, List.setIfInBounds_toArray, List.set_cons_zero, List.set_cons_succ]
        refine Reg.take 5 (v := ?_) rfl (by kernel_rfl) (fun _ _ _ h => h) rfl ?_ ?_
        rotate_left
        · intro W hW
          go_simp
          try with_reducible rfl
        try simp only [Act.put, List.setIfInBounds_toArray, List.set_cons_zero, List.set_cons_succ]
        refine Reg.take 6 (v := ?_) rfl (by kernel_rfl) (fun _ _ _ h => h) rfl ?_ ?_
        rotate_left
        · intro W hW
          go_simp
          try with_reducible rfl
        try simp only [Act.put, List.setIfInBounds_toArray, List.set_cons_zero, List.set_cons_succ]
        refine Reg.take 7 (v := ?_) rfl (by kernel_rfl) (fun _ _ _ h => h) rfl ?_ ?_
        rotate_left
        · intro W hW
          have q := L2.out W hW
          go_simp
          try with_reducible rfl
        try simp only [Act.put, List.setIfInBounds_toArray, List.set_cons_zero, List.set_cons_succ]
        refine Reg.do_ 8 rfl (by kernel_rfl) rfl (fun K hK => ?_)
        go_simp
        refine (same_v cs1 cs2 r s true HSm.out _ (I1.out.below (Below.refl _ wr).drew (Nat.le_refl _)) (I2.out.below (Below.refl _ wr).drew (Nat.le_refl _))).mono ?_
        rintro e w6 ⟨rfl, b6⟩
        have B6 : Hid (Below wr.heap.size wr w6) := (Below.refl _ wr).drew.trans b6
        refine hK.out _ _ b6 ?_
        clear hK K b6
        try simp only [Act.put, List.setIfInBounds_toArray, List.set_cons_zero, List.set_cons_succ]
        refine Reg.take 9 (v := ?_) rfl (by kernel_rfl) (fun _ _ _ h => h) rfl ?_ ?_
        rotate_left
        · intro W hW
          go_simp
          try with_reducible rfl
        try simp only [Act.put, List.setIfInBounds_toArray, List.set_cons_zero, List.set_cons_succ]
        refine Reg.done (by kernel_rfl) ?_
        go_wp2_with fail
        go_roundw
        case rel => exact ⟨i + 1, by omega, by go_num, HQ.out.trans (B6.out.mono HQ.out.size)⟩
        case measure => simp [intOf]; omega
      · obtain rfl : i = x := by omega
        have q0 := P6.out.f.cell 0
        have q1 := P6.out.f.cell 1
        simp only [List.getElem?_toArray, List.getElem?_cons_zero, List.getElem?_cons_succ] at q0 q1
        have B6 := Lib.hid P6.out.old
        have t3 : ((n : Int) != (m : Int)) = true := by simp; omega
        by_cases hmn : m < n
        · have te : ((i : Int) == (m : Int)) = true := by have := HX.out; simp; omega
          go_wp2_with fail
          refine (awake_any _).mono ?_
          rintro e w7 ⟨rfl, b7⟩
          have B7 := Lib.hid (B6.out.trans (b7.mono B6.out.size))
          clear b7
          go_wp2_with fail
          go_ret
          exact ⟨rfl, B7.out⟩
        · have te : ((i : Int) == (n : Int)) = true := by have := HX.out; simp; omega
          go_wp2_with fail
          refine (awake_any _).mono ?_
          rintro e w7 ⟨rfl, b7⟩
          have B7 := Lib.hid (B6.out.trans (b7.mono B6.out.size))
          clear b7
          go_wp2_with fail
          go_ret
          exact ⟨rfl, B7.out⟩
  · have hji : (n : Int) ≤ (j : Int) := by omega
    have hLT : Hid (loc (rs.take j) rs = (-1, 0)) := loc_whole (by have := HN.out; omega)
    go_wp2_with fail
    simp only [hmi]
    obtain ⟨W4, hW4⟩ : ∃ W4, W4 = w3.alloc (.cells #[.int .i64 (-1), .int .i64 0] 40) := ⟨_, rfl⟩
    have P4 : Hid (Pre w W4 A B rs ss g7 ((x : Int)) 28) := by rw [hW4]; exact P3.out.further ((Below.refl _ w3).alloc (Nat.le_refl _) _)
    have K4 : Hid (Blk W4 w3.heap.size 40 #[.int .i64 (-1), .int .i64 0]) := by rw [hW4]; exact Blk.new _ _ _
    rw [← hW4]
    clear hW4 P3
    generalize w3.heap.size = g9 at *
    obtain ⟨A2, c2, hcut, hAt⟩ := run_cut_pre (P := Try.prog) Try.underlying36 rec_size36 A n ca j (by omega)
    have HAt := Lib.hid hAt
    have P4d := Lib.hid (P4.out.further (Below.refl _ W4).drew)
    have h0j : (0 : Int) ≤ (j : Int) := by omega
    clear hAt hmi hji
    refine Reg.start (by kernel_rfl) ?_
    refine Reg.take 0 (v := ?_) rfl (by kernel_rfl) (fun _ _ _ h => h) rfl ?_ ?_
    rotate_left
    · intro W hW
      go_simp
      try with_reducible rfl
    try simp only [Act.put, List.setIfInBounds_toArray, List.set_cons_zero, List.set_cons_succ]
    refine Reg.take 1 (v := ?_) rfl (by kernel_rfl) (fun _ _ _ h => h) rfl ?_ ?_
    rotate_left
    · intro W hW
      go_simp
      try with_reducible rfl
    try simp only [Act.put, List.setIfInBounds_toArray, List.set_cons_zero, List.set_cons_succ]
    refine Reg.take 2 (v := ?_) rfl (by kernel_rfl) (fun _ _ _ h => h) rfl ?_ ?_
    rotate_left
    · intro W hW
      go_simp
      try with_reducible rfl
    try simp only [Act.put, List.setIfInBounds_toArray, List.set_cons_zero, List.set_cons_succ]
    refine Reg.take 3 (v := ?_) rfl (by kernel_rfl) (fun _ _ _ h => h) rfl ?_ ?_
    rotate_left
    · intro W hW
      go_simp
      try with_reducible rfl
    try simp only [Act.put, List.setIfInBounds_toArray, List.set_cons_zero, List.set_cons_succ]
    refine Reg.take 5 (v := ?_) rfl (by kernel_rfl) (fun _ _ _ h => h) rfl ?_ ?_
    rotate_left
    · intro W hW
      have hb := K4.out.below hW.old K4.out.lt
      have q0 : W.cell? ⟨g9, 0, none⟩ = some (.int .i64 (-1)) := hb.cell 0
      have q1 : W.cell? ⟨g9, 1, none⟩ = some (.int .i64 0) := hb.cell 1
      clear hb
      go_simp
      try with_reducible rfl
    try simp only [Act.put, List.setIfInBounds_toArray, List.set_cons_zero, List.set_cons_succ]
    refine Reg.do_ 4 rfl (by kernel_rfl) rfl (fun K hK => ?_)
    go_simp
    refine (locate_v (rs.take j) rs (-1) 0 hLT.out A2 A j n c2 ca _ (by rw [List.length_take]; have := HN.out; omega) HN.out (recSl_take j P4d.out.a HAt.out) P4d.out.a (by omega) (by omega)).mono ?_
    rintro e w5 ⟨rfl, b5⟩
    have P5 := Lib.hid (P4d.out.further b5)
    refine hK.out _ _ b5 ?_
    clear hK K b5
    try simp only [Act.put, List.setIfInBounds_toArray, List.set_cons_zero, List.set_cons_succ]
    refine Reg.take 6 (v := ?_) rfl (by kernel_rfl) (fun _ _ _ h => h) rfl ?_ ?_
    rotate_left
    · intro W hW
      go_simp
      try with_reducible rfl
    try simp only [Act.put, List.setIfInBounds_toArray, List.set_cons_zero, List.set_cons_succ]
    refine Reg.done (by kernel_rfl) ?_
    have q0 : w5.cell? ⟨g7, 0, none⟩ = some (.int .i64 ((x : Int))) := P5.out.f.cell 0
    have q1 : w5.cell? ⟨g7, 1, none⟩ = some (.int .i64 28) := P5.out.f.cell 1
    clear hcut P4 P4d K4
    have tn : decide (n < x) = false := by simp; have := HX.out; omega
    have tm : decide (m < x) = false := by simp; have := HX.out; omega
    have t0 : decide ((x : Int) < 0) = false := by simp <;> omega
    go_wp2_with fail
    go_loopw [11] (fun v wr => ∃ i : Nat, i ≤ x ∧ v = .int .i64 i ∧ Hid (Below w5.heap.size w5 wr)) (fun v _ => x - (intOf v).toNat)
    case atStart => exact ⟨0, by omega, rfl, Below.refl _ _⟩
    case round =>
      obtain ⟨i, hi, rfl, HQ⟩ := hrel
      have P6 := Lib.hid (P5.out.further HQ.out)
      by_cases hlt : i < x
      · obtain ⟨r, s, e1, e2, hsm⟩ := HST.out i hlt
        have il1 : i < n := by have := (List.getElem?_eq_some_iff.1 e1).1; have := HN.out; omega
        have il2 : i < m := by have := (List.getElem?_eq_some_iff.1 e2).1; have := HM.out; omega
        obtain ⟨b1, o1, cs1, rfl, n1, i1, c1⟩ := P6.out.a i r e1
        obtain ⟨b2, o2, cs2, rfl, n2, i2, c2⟩ := P6.out.b i s e2
        have L1 : Hid (∀ W, Reg.SB wr.drew W → (loadRow 48 (.pointer (some ⟨b1, o1 + i * 12, none⟩))).run Try.prog W = .ok (.agg cs1) W) := fun W hW => load_rec (fun j v hv => (hW.old.cell (World.block_lt_of_cell? wr ⟨b1, o1 + i * 12 + j, none⟩ (c1 j v hv))).trans (c1 j v hv)) n1
        have L2 : Hid (∀ W, Reg.SB wr.drew W → (loadRow 48 (.pointer (some ⟨b2, o2 + i * 12, none⟩))).run Try.prog W = .ok (.agg cs2) W) := fun W hW => load_rec (fun j v hv => (hW.old.cell (World.block_lt_of_cell? wr ⟨b2, o2 + i * 12 + j, none⟩ (c2 j v hv))).trans (c2 j v hv)) n2
        have I1 := Lib.hid i1
        have I2 := Lib.hid i2
        have HSm := Lib.hid hsm
        have h1i : (i : Int) < (n : Int) := by omega
        have h2i : (i : Int) < (m : Int) := by omega
        have h0i : (0 : Int) ≤ (i : Int) := by omega
        clear c1 c2 n1 n2 i1 i2 hsm e1 e2
        go_wp2_with fail
        refine Reg.start (by kernel_rfl) ?_
        refine Reg.take 0 (v := ?_) rfl (by kernel_rfl) (fun _ _ _ h => h) rfl ?_ ?_
        rotate_left
        · intro W hW
          go_simp
          try with_reducible rfl
        try simp only [Act.put, List.setIfInBounds_toArray, List.set_cons_zero, List.set_cons_succ]
        refine Reg.take 1 (v := ?_) rfl (by kernel_rfl) (fun _ _ _ h => h) rfl ?_ ?_
        rotate_left
        · intro W hW
          go_simp
          try with_reducible rfl
        try simp only [Act.put, List.setIfInBounds_toArray, List.set_cons_zero, List.set_cons_succ]
        refine Reg.take 2 (v := ?_) rfl (by kernel_rfl) (fun _ _ _ h => h) rfl ?_ ?_
        rotate_left
        · intro W hW
          go_simp
          try with_reducible rfl
        try simp only [Act.put, List.setIfInBounds_toArray, List.set_cons_zero, List.set_cons_succ]
        refine Reg.take 3 (v := ?_) rfl (by kernel_rfl) (fun _ _ _ h => h) rfl ?_ ?_
        rotate_left
        · intro W hW
          have q := L1.out W hW
          go_simp
          try with_reducible rfl
        try simp only [Act.put, List.setIfInBounds_toArray, List.set_cons_zero, List.set_cons_succ]
        refine Reg.take 4 (v := ?_) rfl (by kernel_rfl) (fun _ _ _ h => h) rfl ?_ ?_
        rotate_left
        · intro W hW
          go_simp
          try with_reducible rfl
        try simp only [Act.put, List.setIfInBounds_toArray, List.set_cons_zero, List.set_cons_succ]
        refine Reg.take 5 (v := ?_) rfl (by kernel_rfl) (fun _ _ _ h => h) rfl ?_ ?_
        rotate_left
        · intro W hW
          go_simp
          try with_reducible rfl
        try simp only [Act.put, List.setIfInBounds_toArray, List.set_cons_zero, List.set_cons_succ]
        refine Reg.take 6 (v := ?_) rfl (by kernel_rfl) (fun _ _ _ h => h) rfl ?_ ?_
        rotate_left
        · intro W hW
          go_simp
          try with_reducible rfl
        try simp only [Act.put, List.setIfInBounds_toArray, List.set_cons_zero, List.set_cons_succ]
        refine Reg.take 7 (v := ?_) rfl (by kernel_rfl) (fun _ _ _ h => h) rfl ?_ ?_
        rotate_left
        · intro W hW
          have q := L2.out W hW
          go_simp
          try with_reducible rfl
        try simp only [Act.put, List.setIfInBounds_toArray, List.set_cons_zero, List.set_cons_succ]
        refine Reg.do_ 8 rfl (by kernel_rfl) rfl (fun K hK => ?_)
        go_simp
        refine (same_v cs1 cs2 r s true HSm.out _ (I1.out.below (Below.refl _ wr).drew (Nat.le_refl _)) (I2.out.below (Below.refl _ wr).drew (Nat.le_refl _))).mono ?_
        rintro e w6 ⟨rfl, b6⟩
        have B6 : Hid (Below wr.heap.size wr w6) := (Below.refl _ wr).drew.trans b6
        refine hK.out _ _ b6 ?_
        clear hK K b6
        try simp only [Act.put, List.setIfInBounds_toArray, List.set_cons_zero, List.set_cons_succ]
        refine Reg.take 9 (v := ?_) rfl (by kernel_rfl) (fun _ _ _ h => h) rfl ?_ ?_
        rotate_left
        · intro W hW
          go_simp
          try with_reducible rfl
        try simp only [Act.put, List.setIfInBounds_toArray, List.set_cons_zero, List.set_cons_succ]
        refine Reg.done (by kernel_rfl) ?_
        go_wp2_with fail
        go_roundw
        case rel => exact ⟨i + 1, by omega, by go_num, HQ.out.trans (B6.out.mono HQ.out.size)⟩
        case measure => simp [intOf]; omega
      · obtain rfl : i = x := by omega
        have q0 := P6.out.f.cell 0
        have q1 := P6.out.f.cell 1
        simp only [List.getElem?_toArray, List.getElem?_cons_zero, List.getElem?_cons_succ] at q0 q1
        have B6 := Lib.hid P6.out.old
        have t3 : ((n : Int) != (m : Int)) = true := by simp; omega
        by_cases hmn : m < n
        · have te : ((i : Int) == (m : Int)) = true := by have := HX.out; simp; omega
          go_wp2_with fail
          refine (awake_any _).mono ?_
          rintro e w7 ⟨rfl, b7⟩
          have B7 := Lib.hid (B6.out.trans (b7.mono B6.out.size))
          clear b7
          go_wp2_with fail
          go_ret
          exact ⟨rfl, B7.out⟩
        · have te : ((i : Int) == (n : Int)) = true := by have := HX.out; simp; omega
          go_wp2_with fail
          refine (awake_any _).mono ?_
          rintro e w7 ⟨rfl, b7⟩
          have B7 := Lib.hid (B6.out.trans (b7.mono B6.out.size))
          clear b7
          go_wp2_with fail
          go_ret
          exact ⟨rfl, B7.out⟩

set_option maxRecDepth 100000 in
set_option maxHeartbeats 2000000 in
theorem prefix_no (rs ss : List Rec) (A B : Option Addr) (n m ca cb z : Nat) (w : World) (hn : rs.length = n) (hm : ss.length = m) (ha : RecSl w A rs) (hb : RecSl w B ss) (h : fewB rs = false ∨ (fewB rs = true ∧ fewB ss = false)) :
    Calls Try.prog 8 #[.slice A n ca, .slice B m cb, .int .u8 (z : Int)] w fun e w' => e = .returned (.bool true) ∧ Below w.heap.size w w' := by
  have HN := Lib.hid hn
  have HM := Lib.hid hm
  have HA := Lib.hid ha
  have HB := Lib.hid hb
  clear hn hm ha hb
  rcases h with h | ⟨h1, h2⟩
  · have CA : Hid (∀ W, RecSl W A rs → Calls Try.prog 19 #[.slice A n ca] W fun e w' => e = .returned (.bool false) ∧ W = w') := fun W hW => (few_val rs A n ca W HN.out hW).mono fun e w' ⟨he, hw⟩ => ⟨by rw [he, h], hw⟩
    clear h
    go_enter Try.func8, Try.ntmps8
    go_wp2_with fail
    refine (CA.out _ HA.out).mono ?_
    rintro e w' ⟨rfl, rfl⟩
    go_wp2_with fail
    refine (awake_any _).mono ?_
    rintro e w1 ⟨rfl, b1⟩
    have B1 := Lib.hid b1
    clear b1
    go_wp2_with fail
    go_ret
    exact ⟨rfl, B1.out⟩
  · have CA : Hid (∀ W, RecSl W A rs → Calls Try.prog 19 #[.slice A n ca] W fun e w' => e = .returned (.bool true) ∧ W = w') := fun W hW => (few_val rs A n ca W HN.out hW).mono fun e w' ⟨he, hw⟩ => ⟨by rw [he, h1], hw⟩
    have CB : Hid (∀ W, RecSl W B ss → Calls Try.prog 19 #[.slice B m cb] W fun e w' => e = .returned (.bool false) ∧ W = w') := fun W hW => (few_val ss B m cb W HM.out hW).mono fun e w' ⟨he, hw⟩ => ⟨by rw [he, h2], hw⟩
    clear h1 h2
    go_enter Try.func8, Try.ntmps8
    go_wp2_with fail
    refine (CA.out _ HA.out).mono ?_
    rintro e w' ⟨rfl, rfl⟩
    go_wp2_with fail
    refine (CB.out _ HB.out).mono ?_
    rintro e w' ⟨rfl, rfl⟩
    go_wp2_with fail
    refine (awake_any _).mono ?_
    rintro e w1 ⟨rfl, b1⟩
    have B1 := Lib.hid b1
    clear b1
    go_wp2_with fail
    go_ret
    exact ⟨rfl, B1.out⟩
theorem few_len {rs : List Rec} (h : fewB rs = true) : rs.length ≤ 30 := by
  unfold fewB at h
  rw [Bool.and_eq_true, decide_eq_true_iff] at h
  exact h.1
theorem prefix_walk (rs ss : List Rec) (A B : Option Addr) (n m ca cb z : Nat) (w : World) (hn : rs.length = n) (hm : ss.length = m) (ha : RecSl w A rs) (hb : RecSl w B ss) (hca : n ≤ ca) (hz : z < 256) :
    Calls Try.prog 8 #[.slice A n ca, .slice B m cb, .int .u8 (z : Int)] w fun e w' => e = .returned (.bool true) ∧ Below w.heap.size w w' := by
  cases h1 : fewB rs with
  | false => exact prefix_no rs ss A B n m ca cb z w hn hm ha hb (.inl h1)
  | true =>
    cases h2 : fewB ss with
    | false => exact prefix_no rs ss A B n m ca cb z w hn hm ha hb (.inr ⟨h1, h2⟩)
    | true =>
      have l1 := few_len h1
      have l2 := few_len h2
      have CY : Hid (∀ W, RecSl W A rs → RecSl W B ss → Calls Try.prog 19 #[.slice A n ca] W fun e w' => e = .returned (.bool true) ∧ W = w') ∧ Hid (∀ W, RecSl W A rs → RecSl W B ss → Calls Try.prog 19 #[.slice B m cb] W fun e w' => e = .returned (.bool true) ∧ W = w') :=
        ⟨fun W hA hB => (few_val rs A n ca W hn hA).mono fun e w' ⟨he, hw⟩ => ⟨by rw [he, h1], hw⟩, fun W hA hB => (few_val ss B m cb W hm hB).mono fun e w' ⟨he, hw⟩ => ⟨by rw [he, h2], hw⟩⟩
      rcases loc_cases rs ss with ⟨hv, he, hs⟩ | ⟨x, hv, hx1, hx2, hs, hd⟩ | ⟨x, hv, hne, hx, hs⟩
      · exact prefix_0 rs ss A B n m ca cb z w hn hm ha hb (by omega) (by omega) hca hz hv (by omega) (by rw [← hn]; exact hs) CY
      · exact prefix_29 rs ss A B n m ca cb z w hn hm ha hb (by omega) (by omega) hca hz x hv (by omega) (by omega) hs hd CY
      · exact prefix_28 rs ss A B n m ca cb z w hn hm ha hb (by omega) (by omega) hca hz x hv (by omega) (by rw [hn, hm] at hx; exact hx) hs CY
end Go.Proofs.Ytlfcbfaoecdmoaa.Rc
