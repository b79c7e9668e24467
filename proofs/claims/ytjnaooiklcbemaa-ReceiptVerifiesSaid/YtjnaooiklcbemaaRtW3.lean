/-
  The walks of receipts: Verify of both packages, and short and signed of the law. Conditions: texts of at most 100000 bytes; numbers of their kinds.
-/
import Derived.Test.YtjnaooiklcbemaaRtW2
import Derived.Test.YtjnaooiklcbemaaReg
import Derived.Test.YtjnaooiklcbemaaCut
import Derived.Test.YtjnaooiklcbemaaWrR4
import Derived.IntWalk
namespace Go.Proofs.Ytjnaooiklcbemaa.Rt
open Go.RowKit Go.Proofs.Ytjnaooiklcbemaa.Mem Go.Proofs.Ytjnaooiklcbemaa.Wr Go.Proofs.Ytjnaooiklcbemaa.Dg
attribute [local go_sem ↓] exec_load_rc exec_store_rc exec_cut

def verI (key : Int) (r : Rc) : Int := if (r.sign : Int) = r.signI key then 0 else 15
/-- the receipt with another signature. -/
def Rc.withSign (r : Rc) (n : Nat) : Rc := ⟨r.num, r.game, r.slip, r.first, r.price, r.date, n⟩
theorem signI_u64 (key : Int) (r : Rc) : U64 (r.signI key) := keyedI_u64 _ _
theorem same_sign (r : Rc) (n : Nat) : sameR r (r.withSign n) = decide ((r.sign : Int) = (n : Int)) := by
  rw [Bool.eq_iff_iff, sameR_iff, decide_eq_true_iff]
  constructor
  · intro h
    have := congrArg Rc.sign h
    have h2 : r.sign = n := this
    rw [h2]
  · intro h
    have h2 : r.sign = n := by omega
    subst h2
    rfl
theorem cells_sign (r : Rc) (n : Nat) : r.cells.setIfInBounds 6 (.int .u64 (n : Int)) = (r.withSign n).cells := rfl
theorem verI_eq (key : Int) (r : Rc) (n : Nat) (h : r.signI key = (n : Int)) : verI key r = if sameR r (r.withSign n) = true then 0 else 15 := by
  rw [same_sign, verI, h]
  by_cases e : (r.sign : Int) = (n : Int)
  · simp [e]
  · simp [e]
theorem own_cap {w : World} {base : Nat} {e : TypeId} {size n m c : Nat} {A : Option Addr} {xs : List Value} (h : w.ownsRow base e size (.slice A n c) m xs) : n ≤ c ∧ c ≤ 9223372036854775807 := by
  rcases h.2 with ⟨e, h0⟩ | ⟨g, cap, cur, e, _, _, h6, h7, _⟩
  · injection e with _ e2 e3
    omega
  · injection e with _ e2 e3
    unfold maxLen at h7
    omega
theorem nat_of {n : Int} (h : U64 n) : ∃ k : Nat, n = (k : Int) := ⟨n.toNat, by have := h.1; omega⟩

theorem SBold {w W : World} (h : Below w.drew.heap.size w.drew W) : Below w.heap.size w W := ((Below.refl _ w).drew).trans h

set_option maxRecDepth 100000 in
set_option maxHeartbeats 2000000 in
theorem verify_any (key : Int) (r : Rc) (w : World) (hk : U64 key) (hl : r.lim) (ho : r.ok) :
    Calls Try.prog 14 #[.int .u64 key, .agg r.cells] w (Ret (.int .i64 (verI key r)) w) := by
  obtain ⟨n, hn⟩ := nat_of (signI_u64 key r)
  have HV := Lib.hid (verI_eq key r n hn)
  obtain ⟨cs, HC⟩ : ∃ cs, Hid (cs = r.cells) := ⟨_, rfl⟩
  obtain ⟨ds, HD⟩ : ∃ ds, Hid (ds = (r.withSign n).cells) := ⟨_, rfl⟩
  have CS : Hid (∀ W, Calls Try.prog 12 #[.int .u64 key, .agg cs] W (Ret (.int .u64 (n : Int)) W)) := by
    intro W
    rw [HC.out, ← hn]
    exact sign_any key r W hk hl ho
  have hcs : cs.size = 7 := by rw [HC.out]; rfl
  have hds : ds.size = 7 := by rw [HD.out]; rfl
  have HCS := Lib.hid hcs
  have hone : cs.toList.all (·.oneCell') = true := by rw [HC.out]; rfl
  have HCD : Hid (cs.setIfInBounds 6 (.int .u64 (n : Int)) = ds) := by rw [HC.out, HD.out]; exact cells_sign r n
  have h6 : Hid (cs[6]? = some (.int .u64 (r.sign : Int))) := by rw [HC.out]; rfl
  have HN : Hid (∀ W, (binOp .neq 24 (.agg cs) (.agg ds)).run Try.prog W = .ok (.bool (!sameR r (r.withSign n))) W) := by rw [HC.out, HD.out]; exact fun W => run_rc_neq _ _ W
  have l0 : (loadRow 24 (.pointer (some ⟨w.heap.size, 0, none⟩))).run Try.prog (w.alloc (.cells cs 24)) = .ok (.agg cs) (w.alloc (.cells cs 24)) := load_rc (Blk.new _ _ _) hcs
  have hn1 : Blk ((w.alloc (.cells cs 24)).alloc (.cells #[.string ⟨#[]⟩, .string ⟨#[]⟩, .string ⟨#[]⟩, .int .i64 0, .int .i64 0, .int .i64 0, .int .u64 0] 24)) (w.heap.size + 1) 24 #[.string ⟨#[]⟩, .string ⟨#[]⟩, .string ⟨#[]⟩, .int .i64 0, .int .i64 0, .int .i64 0, .int .u64 0] := heap_alloc2_new _ _ _
  have hn0 : Blk ((w.alloc (.cells cs 24)).alloc (.cells #[.string ⟨#[]⟩, .string ⟨#[]⟩, .string ⟨#[]⟩, .int .i64 0, .int .i64 0, .int .i64 0, .int .u64 0] 24)) w.heap.size 24 cs := heap_alloc2_old _ _ _
  have st := store_rc (cs := cs) hn1 rfl hcs hone
  obtain ⟨W2, hW2⟩ : ∃ W2, W2 = World.setRow ((w.alloc (.cells cs 24)).alloc (.cells #[.string ⟨#[]⟩, .string ⟨#[]⟩, .string ⟨#[]⟩, .int .i64 0, .int .i64 0, .int .i64 0, .int .u64 0] 24)) (w.heap.size + 1) cs := ⟨_, rfl⟩
  have K1 : Hid (Blk W2 (w.heap.size + 1) 24 cs) := by rw [hW2]; exact Blk_setRow hn1 cs
  have K0 : Hid (Blk W2 w.heap.size 24 cs) := by rw [hW2]; exact hn0.frm (frm_setRow _ _ _) (fun e => by omega)
  have B2 : Hid (Below w.heap.size w W2) := by
    rw [hW2]
    exact ((((Below.refl _ w).alloc (Nat.le_refl _) _).alloc (by simp) _)).trans ((frm_setRow _ _ _).below (by simp; omega) (fun i hi e => by omega))
  have Z2 : Hid (w.heap.size + 1 < W2.heap.size) := K1.out.lt
  rw [← hW2] at st
  have l2 : (loadRow 24 (.pointer (some ⟨w.heap.size, 0, none⟩))).run Try.prog W2 = .ok (.agg cs) W2 := load_rc K0.out hcs
  rw [← HC.out]
  clear hn hk hl ho hn1 hn0 hone hcs hds hW2
  go_enter Try.func14, Try.ntmps14
  go_wp2_with fail
  refine (CS.out _).mono ?_
  rintro e w3 ⟨rfl, b3⟩
  have B3 := Lib.hid b3
  have k1 : Blk w3 (w.heap.size + 1) 24 cs := K1.out.below b3 Z2.out
  have k0 : Blk w3 w.heap.size 24 cs := K0.out.below b3 (by have := Z2.out; omega)
  have q6 : w3.cell? ⟨w.heap.size + 1, 6, none⟩ = some (.int .u64 (r.sign : Int)) := (k1.cell 6).trans h6.out
  have z6 : w3.frozen? ⟨w.heap.size + 1, 6, none⟩ = false := k1.frozen 6
  have n0 : Blk (w3.setCell ⟨w.heap.size + 1, 6, none⟩ (.int .u64 (n : Int))) w.heap.size 24 cs := k0.far (p := ⟨w.heap.size + 1, 6, none⟩) (by show w.heap.size ≠ w.heap.size + 1; omega) _
  have n1 : Blk (w3.setCell ⟨w.heap.size + 1, 6, none⟩ (.int .u64 (n : Int))) (w.heap.size + 1) 24 ds := by
    have := k1.put 6 (.int .u64 (n : Int))
    rwa [HCD.out] at this
  have m0 := load_rc n0 HCS.out
  have m1 := load_rc n1 (by rw [← HCD.out]; simpa using HCS.out)
  have BE : Hid (Below w.heap.size w (w3.setCell ⟨w.heap.size + 1, 6, none⟩ (.int .u64 (n : Int)))) := (B2.out.trans (b3.mono (by have := Z2.out; omega))).setCell (by show w.heap.size ≤ w.heap.size + 1; omega) _
  have hneq := HN.out
  clear l0 st l2 b3 k1 k0 n0 n1
  generalize hq : sameR r (r.withSign n) = q at *
  cases q with
  | true =>
    clear hq
    go_wp2_with fail
    go_ret
    exact ⟨by rw [HV.out]; rfl, BE.out⟩
  | false =>
    clear hq
    go_wp2_with fail
    go_ret
    exact ⟨by rw [HV.out]; rfl, BE.out⟩

set_option maxRecDepth 100000 in
set_option maxHeartbeats 2000000 in
theorem verifyR_any (key : Int) (r : Rc) (w : World) (hk : U64 key) (hl : r.lim) (ho : r.ok) :
    Calls Try.prog 15 #[.int .u64 key, .agg r.cells] w (Ret (.int .i64 (verI key r)) w) := by
  obtain ⟨cs, HC⟩ : ∃ cs, Hid (cs = r.cells) := ⟨_, rfl⟩
  have CS : Hid (∀ W, Calls Try.prog 13 #[.int .u64 key, .agg cs] W (Ret (.int .u64 (r.signI key)) W)) := by
    intro W
    rw [HC.out]
    exact signR_any key r W hk hl ho
  have HCS : Hid (cs.size = 7) := by rw [HC.out]; rfl
  have h6 : Hid (cs[6]? = some (.int .u64 (r.sign : Int))) := by rw [HC.out]; rfl
  obtain ⟨W0, hW0⟩ : ∃ W0, W0 = w.alloc (.cells cs 24) := ⟨_, rfl⟩
  have KB : Hid (Blk W0 w.heap.size 24 cs) := by rw [hW0]; exact Blk.new _ _ _
  have BB : Hid (Below w.heap.size w W0) := by rw [hW0]; exact (Below.refl _ w).alloc (Nat.le_refl _) _
  have HW := Lib.hid hW0
  clear hW0
  rw [← HC.out]
  clear hk hl ho
  by_cases hv : (r.sign : Int) = r.signI key
  · have hne : ((r.sign : Int) != r.signI key) = false := by simp [hv]
    have HV : Hid (verI key r = 0) := by show _ = _; rw [verI, if_pos hv]
    generalize r.signI key = s at *
    generalize (r.sign : Int) = t at *
    clear hv
    go_enter Try.func15, Try.ntmps15
    go_wp2_with fail
    rw [← HW.out]
    refine Reg.start (by kernel_rfl) ?_
    refine Reg.take 0 (v := ?_) rfl (by kernel_rfl) (fun _ _ _ h => h) rfl ?_ ?_
    rotate_left
    · intro W hW
      go_simp
      try with_reducible rfl
    try simp only [Act.put, List.setIfInBounds_toArray, List.set_cons_zero, List.set_cons_succ]
    refine Reg.take 1 (v := ?_) rfl (by kernel_rfl) (fun _ _ _ h => h) rfl ?_ ?_
    rotate_left
    · intro W hW
      have q6 : W.cell? ⟨w.heap.size, 6, none⟩ = some (.int .u64 t) := ((KB.out.below hW.old KB.out.lt).cell 6).trans h6.out
      go_simp
      try with_reducible rfl
    try simp only [Act.put, List.setIfInBounds_toArray, List.set_cons_zero, List.set_cons_succ]
    refine Reg.take 2 (v := ?_) rfl (by kernel_rfl) (fun _ _ _ h => h) rfl ?_ ?_
    rotate_left
    · intro W hW
      go_simp
      try with_reducible rfl
    try simp only [Act.put, List.setIfInBounds_toArray, List.set_cons_zero, List.set_cons_succ]
    refine Reg.take 3 (v := ?_) rfl (by kernel_rfl) (fun _ _ _ h => h) rfl ?_ ?_
    rotate_left
    · intro W hW
      have l0 : (loadRow 24 (.pointer (some ⟨w.heap.size, 0, none⟩))).run Try.prog W = .ok (.agg cs) W := load_rc (KB.out.below hW.old KB.out.lt) HCS.out
      go_simp
      try with_reducible rfl
    try simp only [Act.put, List.setIfInBounds_toArray, List.set_cons_zero, List.set_cons_succ]
    refine Reg.do_ 4 rfl (by kernel_rfl) rfl (fun K hK => ?_)
    go_simp
    refine (CS.out _).mono ?_
    rintro e w3 ⟨rfl, b3⟩
    have B3 := Lib.hid b3
    refine hK.out _ _ b3 ?_
    clear hK K b3
    try simp only [Act.put, List.setIfInBounds_toArray, List.set_cons_zero, List.set_cons_succ]
    refine Reg.take 5 (v := ?_) rfl (by kernel_rfl) (fun _ _ _ h => h) rfl ?_ ?_
    rotate_left
    · intro W hW
      go_simp
      try with_reducible rfl
    try simp only [Act.put, List.setIfInBounds_toArray, List.set_cons_zero, List.set_cons_succ]
    refine Reg.done (by kernel_rfl) ?_
    have BE := Lib.hid (BB.out.trans ((SBold B3.out).mono BB.out.size))
    go_wp2_with fail
    go_ret
    exact ⟨by rw [HV.out]; rfl, BE.out⟩
  · have hne : ((r.sign : Int) != r.signI key) = true := by simp [hv]
    have HV : Hid (verI key r = 15) := by show _ = _; rw [verI, if_neg hv]
    generalize r.signI key = s at *
    generalize (r.sign : Int) = t at *
    clear hv
    go_enter Try.func15, Try.ntmps15
    go_wp2_with fail
    rw [← HW.out]
    refine Reg.start (by kernel_rfl) ?_
    refine Reg.take 0 (v := ?_) rfl (by kernel_rfl) (fun _ _ _ h => h) rfl ?_ ?_
    rotate_left
    · intro W hW
      go_simp
      try with_reducible rfl
    try simp only [Act.put, List.setIfInBounds_toArray, List.set_cons_zero, List.set_cons_succ]
    refine Reg.take 1 (v := ?_) rfl (by kernel_rfl) (fun _ _ _ h => h) rfl ?_ ?_
    rotate_left
    · intro W hW
      have q6 : W.cell? ⟨w.heap.size, 6, none⟩ = some (.int .u64 t) := ((KB.out.below hW.old KB.out.lt).cell 6).trans h6.out
      go_simp
      try with_reducible rfl
    try simp only [Act.put, List.setIfInBounds_toArray, List.set_cons_zero, List.set_cons_succ]
    refine Reg.take 2 (v := ?_) rfl (by kernel_rfl) (fun _ _ _ h => h) rfl ?_ ?_
    rotate_left
    · intro W hW
      go_simp
      try with_reducible rfl
    try simp only [Act.put, List.setIfInBounds_toArray, List.set_cons_zero, List.set_cons_succ]
    refine Reg.take 3 (v := ?_) rfl (by kernel_rfl) (fun _ _ _ h => h) rfl ?_ ?_
    rotate_left
    · intro W hW
      have l0 : (loadRow 24 (.pointer (some ⟨w.heap.size, 0, none⟩))).run Try.prog W = .ok (.agg cs) W := load_rc (KB.out.below hW.old KB.out.lt) HCS.out
      go_simp
      try with_reducible rfl
    try simp only [Act.put, List.setIfInBounds_toArray, List.set_cons_zero, List.set_cons_succ]
    refine Reg.do_ 4 rfl (by kernel_rfl) rfl (fun K hK => ?_)
    go_simp
    refine (CS.out _).mono ?_
    rintro e w3 ⟨rfl, b3⟩
    have B3 := Lib.hid b3
    refine hK.out _ _ b3 ?_
    clear hK K b3
    try simp only [Act.put, List.setIfInBounds_toArray, List.set_cons_zero, List.set_cons_succ]
    refine Reg.take 5 (v := ?_) rfl (by kernel_rfl) (fun _ _ _ h => h) rfl ?_ ?_
    rotate_left
    · intro W hW
      go_simp
      try with_reducible rfl
    try simp only [Act.put, List.setIfInBounds_toArray, List.set_cons_zero, List.set_cons_succ]
    refine Reg.done (by kernel_rfl) ?_
    have BE := Lib.hid (BB.out.trans ((SBold B3.out).mono BB.out.size))
    go_wp2_with fail
    go_ret
    exact ⟨by rw [HV.out]; rfl, BE.out⟩

def isShort (r : Rc) : Bool := decide (r.num.size ≤ 2000) && (decide (r.game.size ≤ 2000) && decide (r.slip.size ≤ 2000))
set_option maxRecDepth 100000 in
set_option maxHeartbeats 2000000 in
theorem short_any (r : Rc) (w : World) :
    Calls Try.prog 10 #[.agg r.cells] w (Ret (.bool (isShort r)) w) := by
  have BB : Hid (Below w.heap.size w (w.alloc (.cells r.cells 24))) := (Below.refl _ w).alloc (Nat.le_refl _) _
  have HS : Hid (isShort r = (decide (r.num.size ≤ 2000) && (decide (r.game.size ≤ 2000) && decide (r.slip.size ≤ 2000)))) := rfl
  generalize isShort r = b at *
  unfold Rc.cells at *
  by_cases h1 : r.num.size ≤ 2000
  · by_cases h2 : r.game.size ≤ 2000
    · by_cases h3 : r.slip.size ≤ 2000
      · have HB : Hid (b = true) := by show _ = _; rw [HS.out]; simp [h1, h2, h3]
        have t1 : decide ((r.num.size : Int) ≤ 2000) = true := by simp; omega
        have t2 : decide ((r.game.size : Int) ≤ 2000) = true := by simp; omega
        have t3 : decide ((r.slip.size : Int) ≤ 2000) = true := by simp; omega
        go_enter Try.func10, Try.ntmps10
        go_wp2_with fail
        go_ret
        exact ⟨by rw [HB.out]; rfl, BB.out⟩
      · have HB : Hid (b = false) := by show _ = _; rw [HS.out]; simp [h1, h2, h3]
        have t1 : decide ((r.num.size : Int) ≤ 2000) = true := by simp; omega
        have t2 : decide ((r.game.size : Int) ≤ 2000) = true := by simp; omega
        have t3 : decide ((r.slip.size : Int) ≤ 2000) = false := by simp; omega
        go_enter Try.func10, Try.ntmps10
        go_wp2_with fail
        go_ret
        exact ⟨by rw [HB.out]; rfl, BB.out⟩
    · have HB : Hid (b = false) := by show _ = _; rw [HS.out]; simp [h1, h2]
      have t1 : decide ((r.num.size : Int) ≤ 2000) = true := by simp; omega
      have t2 : decide ((r.game.size : Int) ≤ 2000) = false := by simp; omega
      go_enter Try.func10, Try.ntmps10
      go_wp2_with fail
      go_ret
      exact ⟨by rw [HB.out]; rfl, BB.out⟩
  · have HB : Hid (b = false) := by show _ = _; rw [HS.out]; simp [h1]
    have t1 : decide ((r.num.size : Int) ≤ 2000) = false := by simp; omega
    go_enter Try.func10, Try.ntmps10
    go_wp2_with fail
    go_ret
    exact ⟨by rw [HB.out]; rfl, BB.out⟩

theorem cells_zero (r : Rc) : r.cells.setIfInBounds 6 (.int .u64 0) = (r.withSign 0).cells := rfl
theorem enc_zero (r : Rc) : (r.withSign 0).enc = r.part ++ [0] := part_len r
set_option maxRecDepth 100000 in
set_option maxHeartbeats 2000000 in
theorem signedL_any (r : Rc) (w : World) (hl : r.lim) (ho : r.ok) :
    Calls Try.prog 22 #[.agg r.cells] w (Ret (.string ⟨r.part.toArray⟩) w) := by
  obtain ⟨cs, HC⟩ : ∃ cs, Hid (cs = r.cells) := ⟨_, rfl⟩
  obtain ⟨ds, HD⟩ : ∃ ds, Hid (ds = (r.withSign 0).cells) := ⟨_, rfl⟩
  have CS : Hid (∀ W, Calls Try.prog 18 #[.agg ds] W (RetBytes (r.part ++ [0]) W)) := by
    intro W
    rw [HD.out, ← enc_zero]
    exact encode_any (r.withSign 0) W ⟨hl.num, hl.game, hl.slip⟩ ⟨ho.first, ho.price, ho.date, by show 0 < _; omega⟩
  have HP : Hid (r.part.length ≤ 300060) := part_le hl ho
  have hds : ds.size = 7 := by rw [HD.out]; rfl
  have h6 : Hid (cs[6]? = some (.int .u64 (r.sign : Int))) := by rw [HC.out]; rfl
  have HCD : Hid (cs.setIfInBounds 6 (.int .u64 0) = ds) := by rw [HC.out, HD.out]; exact cells_zero r
  have KB : Blk (w.alloc (.cells cs 24)) w.heap.size 24 cs := Blk.new _ _ _
  have q6 : (w.alloc (.cells cs 24)).cell? ⟨w.heap.size, 6, none⟩ = some (.int .u64 (r.sign : Int)) := (KB.cell 6).trans h6.out
  have z6 : (w.alloc (.cells cs 24)).frozen? ⟨w.heap.size, 6, none⟩ = false := KB.frozen 6
  have l0 : (loadRow 24 (.pointer (some ⟨w.heap.size, 0, none⟩))).run Try.prog (w.alloc (.cells (cs.setIfInBounds 6 (.int .u64 0)) 24)) = .ok (.agg ds) (w.alloc (.cells (cs.setIfInBounds 6 (.int .u64 0)) 24)) := by
    rw [HCD.out]
    exact load_rc (Blk.new _ _ _) hds
  have HL : Hid ((r.part ++ [0]).length = r.part.length + 1) := by show _ = _; simp
  rw [← HC.out]
  clear hl ho hds KB
  go_enter Try.func22, Try.ntmps22
  go_wp2_with fail
  refine (CS.out _).mono ?_
  rintro e w1 ⟨v1, rfl, o1, f1, b1⟩
  rw [HL.out] at o1
  obtain ⟨A1, c1, rfl, s1⟩ := own_form o1
  have hcap := own_cap o1
  have B1 : Hid (Below w.heap.size w w1) := ((Below.refl _ w).alloc (Nat.le_refl _) _).trans (b1.mono (by simp))
  obtain ⟨A2, c2, hcut, hco⟩ := run_cut_to (P := Try.prog) Try.underlying38 u8_size A1 (r.part.length + 1) c1 r.part.length (by omega)
  have s2 : Sl w1 1 A2 r.part.length (byts r.part) := by
    have := hco.cells w1 _ s1 (by omega)
    rw [Nat.zero_mul, List.drop_zero, Nat.sub_zero, Nat.mul_one, byts_append, List.take_append_of_le_length (by rw [byts_len]; omega), List.take_of_length_le (by rw [byts_len]; omega)] at this
    exact this
  have cv := run_string_sl (P := Try.prog) (w := w1) 38 9 5 Try.underlying38 Try.underlying5 Try.underlying9 s2 c2
  have t0 : (((r.part.length + 1 : Nat) : Int) == 0) = false := by rw [beq_eq_false_iff_ne]; omega
  have t1 : IntKind.i64.wrap (((r.part.length + 1 : Nat) : Int) - 1) = (r.part.length : Int) := by
    rw [IntWalk.i64_in _ (by have := HP.out; omega)]
    omega
  have hle : (r.part.length : Int) ≤ 300060 := by have := HP.out; omega
  have h0e : (0 : Int) ≤ (r.part.length : Int) := by omega
  clear o1 f1 b1 s1 s2 hco hcap HL HP
  generalize r.part.length = n at *
  go_wp2_with fail
  go_ret
  exact ⟨rfl, B1.out⟩
end Go.Proofs.Ytjnaooiklcbemaa.Rt
