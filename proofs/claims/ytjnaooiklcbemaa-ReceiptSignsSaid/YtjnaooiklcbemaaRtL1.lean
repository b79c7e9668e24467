/-
  The walks of ReceiptSigns and ReceiptEncodes. Conditions: numbers of their kinds.
-/
import Derived.Test.YtjnaooiklcbemaaRtAwake
import Derived.Test.YtjnaooiklcbemaaReg
namespace Go.Proofs.Ytjnaooiklcbemaa.Rt
open Go.RowKit Go.Proofs.Ytjnaooiklcbemaa.Mem Go.Proofs.Ytjnaooiklcbemaa.Wr Go.Proofs.Ytjnaooiklcbemaa.Dg
attribute [local go_sem ↓] exec_load_rc exec_store_rc
set_option maxRecDepth 100000 in
set_option maxHeartbeats 4000000 in
theorem signs_walk (key : Int) (r : Rc) (w : World) (hk : U64 key) (ho : r.ok) :
    Calls Try.prog 3 #[.int .u64 key, .agg r.cells] w fun e w' => e = .returned (.bool true) ∧ Below w.heap.size w w' := by
  obtain ⟨cs, HC⟩ : ∃ cs, Hid (cs = r.cells) := ⟨_, rfl⟩
  have HCS : Hid (cs.size = 7) := by rw [HC.out]; rfl
  have l0 : (loadRow 24 (.pointer (some ⟨w.heap.size, 0, none⟩))).run Try.prog (w.alloc (.cells cs 24)) = .ok (.agg cs) (w.alloc (.cells cs 24)) := load_rc (Blk.new _ _ _) HCS.out
  cases hs : isShort r with
  | false =>
    have CSh : Hid (∀ W, Calls Try.prog 10 #[.agg cs] W (Ret (.bool false) W)) := fun W => by rw [HC.out, ← hs]; exact short_any r W
    clear hs hk ho
    obtain ⟨W0, hW0⟩ : ∃ W0, W0 = w.alloc (.cells cs 24) := ⟨_, rfl⟩
    have KB_0 : Hid (Blk W0 w.heap.size 24 cs) := by rw [hW0]; exact Blk.new _ _ _
    have BE_0 : Hid (Below w.heap.size w W0) := by rw [hW0]; exact (Below.refl _ w).alloc (Nat.le_refl _) _
    have HW := Lib.hid hW0
    rw [← HC.out]
    clear hW0
    go_enter Try.func3, Try.ntmps3
    go_wp2_with fail
    rw [← HW.out]
    clear l0 HW
    refine (CSh.out _).mono ?_
    rintro e v1 ⟨rfl, b1⟩
    have KB_1 := Lib.hid (KB_0.out.below b1 KB_0.out.lt)
    have BE_1 := Lib.hid (BE_0.out.trans (b1.mono BE_0.out.size))
    clear KB_0 BE_0
    clear b1
    go_wp2_with fail
    refine (awake19 _).mono ?_
    rintro e v2 ⟨rfl, b2⟩
    have KB_2 := Lib.hid (KB_1.out.below b2 KB_1.out.lt)
    have BE_2 := Lib.hid (BE_1.out.trans (b2.mono BE_1.out.size))
    clear KB_1 BE_1
    clear b2
    go_wp2_with fail
    go_ret
    exact ⟨rfl, BE_2.out⟩
  | true =>
    have CSh : Hid (∀ W, Calls Try.prog 10 #[.agg cs] W (Ret (.bool true) W)) := fun W => by rw [HC.out, ← hs]; exact short_any r W
    have hlim := lim_of_few (few_of_short hs)
    have C1 : Hid (∀ W, Calls Try.prog 12 #[.int .u64 key, .agg cs] W (Ret (.int .u64 (r.signI key)) W)) := fun W => by rw [HC.out]; exact sign_any key r W hk hlim ho
    have C2 : Hid (∀ W, Calls Try.prog 13 #[.int .u64 key, .agg cs] W (Ret (.int .u64 (r.signI key)) W)) := fun W => by rw [HC.out]; exact signR_any key r W hk hlim ho
    have C3 : Hid (∀ W, Calls Try.prog 14 #[.int .u64 key, .agg cs] W (Ret (.int .i64 (verI key r)) W)) := fun W => by rw [HC.out]; exact verify_any key r W hk hlim ho
    have C4 : Hid (∀ W, Calls Try.prog 15 #[.int .u64 key, .agg cs] W (Ret (.int .i64 (verI key r)) W)) := fun W => by rw [HC.out]; exact verifyR_any key r W hk hlim ho
    generalize r.signI key = sg at *
    generalize verI key r = ve at *
    clear hs hk ho hlim
    obtain ⟨W0, hW0⟩ : ∃ W0, W0 = w.alloc (.cells cs 24) := ⟨_, rfl⟩
    have KB_0 : Hid (Blk W0 w.heap.size 24 cs) := by rw [hW0]; exact Blk.new _ _ _
    have BE_0 : Hid (Below w.heap.size w W0) := by rw [hW0]; exact (Below.refl _ w).alloc (Nat.le_refl _) _
    have HW := Lib.hid hW0
    rw [← HC.out]
    clear hW0
    go_enter Try.func3, Try.ntmps3
    go_wp2_with fail
    rw [← HW.out]
    clear l0 HW
    refine (CSh.out _).mono ?_
    rintro e v1 ⟨rfl, b1⟩
    have KB_1 := Lib.hid (KB_0.out.below b1 KB_0.out.lt)
    have BE_1 := Lib.hid (BE_0.out.trans (b1.mono BE_0.out.size))
    clear KB_0 BE_0
    clear b1
    go_wp2_with fail
    have F : Below v1.heap.size v1 v1.drew := (Below.refl _ _).drew
    have KB_2 := Lib.hid (KB_1.out.below F KB_1.out.lt)
    have BE_2 := Lib.hid (BE_1.out.trans (F.mono BE_1.out.size))
    clear KB_1 BE_1
    clear F
    refine Reg.start (by kernel_rfl) ?_
    refine Reg.take 0 (v := ?_) rfl (by kernel_rfl) (fun _ _ _ h => h) rfl ?_ ?_
    rotate_left
    · intro W hW
      go_simp
      try with_reducible rfl
    try simp only [Act.put, List.setIfInBounds_toArray, List.set_cons_zero, List.set_cons_succ]
    refine Reg.take 1 (v := ?_) rfl (by kernel_rfl) (fun _ _ _ h => h) rfl ?_ ?_
    rotate_left
    · intro W hW
      have l1 : (loadRow 24 (.pointer (some ⟨w.heap.size, 0, none⟩))).run Try.prog W = .ok (.agg cs) W := load_rc (KB_2.out.below hW.all KB_2.out.lt) HCS.out
      go_simp
      try with_reducible rfl
    try simp only [Act.put, List.setIfInBounds_toArray, List.set_cons_zero, List.set_cons_succ]
    refine Reg.take 3 (v := ?_) rfl (by kernel_rfl) (fun _ _ _ h => h) rfl ?_ ?_
    rotate_left
    · intro W hW
      go_simp
      try with_reducible rfl
    try simp only [Act.put, List.setIfInBounds_toArray, List.set_cons_zero, List.set_cons_succ]
    refine Reg.take 4 (v := ?_) rfl (by kernel_rfl) (fun _ _ _ h => h) rfl ?_ ?_
    rotate_left
    · intro W hW
      have l1 : (loadRow 24 (.pointer (some ⟨w.heap.size, 0, none⟩))).run Try.prog W = .ok (.agg cs) W := load_rc (KB_2.out.below hW.all KB_2.out.lt) HCS.out
      go_simp
      try with_reducible rfl
    try simp only [Act.put, List.setIfInBounds_toArray, List.set_cons_zero, List.set_cons_succ]
    refine Reg.do_ 2 rfl (by kernel_rfl) rfl (fun K hK => ?_)
    go_simp
    refine (C1.out _).mono ?_
    rintro e v2 ⟨rfl, b2⟩
    have KB_3 := Lib.hid (KB_2.out.below b2 KB_2.out.lt)
    have BE_3 := Lib.hid (BE_2.out.trans (b2.mono BE_2.out.size))
    clear KB_2 BE_2
    refine hK.out _ _ b2 ?_
    clear hK K b2
    try simp only [Act.put, List.setIfInBounds_toArray, List.set_cons_zero, List.set_cons_succ]
    refine Reg.do_ 5 rfl (by kernel_rfl) rfl (fun K hK => ?_)
    go_simp
    refine (C2.out _).mono ?_
    rintro e v3 ⟨rfl, b3⟩
    have KB_4 := Lib.hid (KB_3.out.below b3 KB_3.out.lt)
    have BE_4 := Lib.hid (BE_3.out.trans (b3.mono BE_3.out.size))
    clear KB_3 BE_3
    refine hK.out _ _ b3 ?_
    clear hK K b3
    try simp only [Act.put, List.setIfInBounds_toArray, List.set_cons_zero, List.set_cons_succ]
    refine Reg.take 6 (v := ?_) rfl (by kernel_rfl) (fun _ _ _ h => h) rfl ?_ ?_
    rotate_left
    · intro W hW
      go_simp
      try with_reducible rfl
    try simp only [Act.put, List.setIfInBounds_toArray, List.set_cons_zero, List.set_cons_succ]
    refine Reg.take 7 (v := ?_) rfl (by kernel_rfl) (fun _ _ _ h => h) rfl ?_ ?_
    rotate_left
    · intro W hW
      go_simp
      try with_reducible rfl
    try simp only [Act.put, List.setIfInBounds_toArray, List.set_cons_zero, List.set_cons_succ]
    refine Reg.take 8 (v := ?_) rfl (by kernel_rfl) (fun _ _ _ h => h) rfl ?_ ?_
    rotate_left
    · intro W hW
      go_simp
      try with_reducible rfl
    try simp only [Act.put, List.setIfInBounds_toArray, List.set_cons_zero, List.set_cons_succ]
    refine Reg.take 9 (v := ?_) rfl (by kernel_rfl) (fun _ _ _ h => h) rfl ?_ ?_
    rotate_left
    · intro W hW
      have l1 : (loadRow 24 (.pointer (some ⟨w.heap.size, 0, none⟩))).run Try.prog W = .ok (.agg cs) W := load_rc (KB_4.out.below hW.all KB_4.out.lt) HCS.out
      go_simp
      try with_reducible rfl
    try simp only [Act.put, List.setIfInBounds_toArray, List.set_cons_zero, List.set_cons_succ]
    refine Reg.take 11 (v := ?_) rfl (by kernel_rfl) (fun _ _ _ h => h) rfl ?_ ?_
    rotate_left
    · intro W hW
      go_simp
      try with_reducible rfl
    try simp only [Act.put, List.setIfInBounds_toArray, List.set_cons_zero, List.set_cons_succ]
    refine Reg.take 12 (v := ?_) rfl (by kernel_rfl) (fun _ _ _ h => h) rfl ?_ ?_
    rotate_left
    · intro W hW
      have l1 : (loadRow 24 (.pointer (some ⟨w.heap.size, 0, none⟩))).run Try.prog W = .ok (.agg cs) W := load_rc (KB_4.out.below hW.all KB_4.out.lt) HCS.out
      go_simp
      try with_reducible rfl
    try simp only [Act.put, List.setIfInBounds_toArray, List.set_cons_zero, List.set_cons_succ]
    refine Reg.do_ 10 rfl (by kernel_rfl) rfl (fun K hK => ?_)
    go_simp
    refine (C3.out _).mono ?_
    rintro e v4 ⟨rfl, b4⟩
    have KB_5 := Lib.hid (KB_4.out.below b4 KB_4.out.lt)
    have BE_5 := Lib.hid (BE_4.out.trans (b4.mono BE_4.out.size))
    clear KB_4 BE_4
    refine hK.out _ _ b4 ?_
    clear hK K b4
    try simp only [Act.put, List.setIfInBounds_toArray, List.set_cons_zero, List.set_cons_succ]
    refine Reg.do_ 13 rfl (by kernel_rfl) rfl (fun K hK => ?_)
    go_simp
    refine (C4.out _).mono ?_
    rintro e v5 ⟨rfl, b5⟩
    have KB_6 := Lib.hid (KB_5.out.below b5 KB_5.out.lt)
    have BE_6 := Lib.hid (BE_5.out.trans (b5.mono BE_5.out.size))
    clear KB_5 BE_5
    refine hK.out _ _ b5 ?_
    clear hK K b5
    try simp only [Act.put, List.setIfInBounds_toArray, List.set_cons_zero, List.set_cons_succ]
    refine Reg.take 14 (v := ?_) rfl (by kernel_rfl) (fun _ _ _ h => h) rfl ?_ ?_
    rotate_left
    · intro W hW
      go_simp
      try with_reducible rfl
    try simp only [Act.put, List.setIfInBounds_toArray, List.set_cons_zero, List.set_cons_succ]
    refine Reg.take 15 (v := ?_) rfl (by kernel_rfl) (fun _ _ _ h => h) rfl ?_ ?_
    rotate_left
    · intro W hW
      go_simp
      try with_reducible rfl
    try simp only [Act.put, List.setIfInBounds_toArray, List.set_cons_zero, List.set_cons_succ]
    refine Reg.take 16 (v := ?_) rfl (by kernel_rfl) (fun _ _ _ h => h) rfl ?_ ?_
    rotate_left
    · intro W hW
      go_simp
      try with_reducible rfl
    try simp only [Act.put, List.setIfInBounds_toArray, List.set_cons_zero, List.set_cons_succ]
    refine Reg.do_ 17 rfl (by kernel_rfl) rfl (fun K hK => ?_)
    go_simp
    refine (awake19 _).mono ?_
    rintro e v6 ⟨rfl, b6⟩
    have KB_7 := Lib.hid (KB_6.out.below b6 KB_6.out.lt)
    have BE_7 := Lib.hid (BE_6.out.trans (b6.mono BE_6.out.size))
    clear KB_6 BE_6
    refine hK.out _ _ b6 ?_
    clear hK K b6
    try simp only [Act.put, List.setIfInBounds_toArray, List.set_cons_zero, List.set_cons_succ]
    refine Reg.take 18 (v := ?_) rfl (by kernel_rfl) (fun _ _ _ h => h) rfl ?_ ?_
    rotate_left
    · intro W hW
      go_simp
      try with_reducible rfl
    try simp only [Act.put, List.setIfInBounds_toArray, List.set_cons_zero, List.set_cons_succ]
    refine Reg.take 19 (v := ?_) rfl (by kernel_rfl) (fun _ _ _ h => h) rfl ?_ ?_
    rotate_left
    · intro W hW
      go_simp
      try with_reducible rfl
    try simp only [Act.put, List.setIfInBounds_toArray, List.set_cons_zero, List.set_cons_succ]
    refine Reg.done (by kernel_rfl) ?_
    go_wp2_with fail
    go_ret
    exact ⟨rfl, BE_7.out⟩
set_option maxRecDepth 100000 in
set_option maxHeartbeats 4000000 in
theorem encodes_walk (r : Rc) (w : World) (ho : r.ok) :
    Calls Try.prog 5 #[.agg r.cells] w fun e w' => e = .returned (.bool true) ∧ Below w.heap.size w w' := by
  obtain ⟨cs, HC⟩ : ∃ cs, Hid (cs = r.cells) := ⟨_, rfl⟩
  have HCS : Hid (cs.size = 7) := by rw [HC.out]; rfl
  have l0 : (loadRow 24 (.pointer (some ⟨w.heap.size, 0, none⟩))).run Try.prog (w.alloc (.cells cs 24)) = .ok (.agg cs) (w.alloc (.cells cs 24)) := load_rc (Blk.new _ _ _) HCS.out
  cases hs : isShort r with
  | false =>
    have CSh : Hid (∀ W, Calls Try.prog 10 #[.agg cs] W (Ret (.bool false) W)) := fun W => by rw [HC.out, ← hs]; exact short_any r W
    clear hs ho
    obtain ⟨W0, hW0⟩ : ∃ W0, W0 = w.alloc (.cells cs 24) := ⟨_, rfl⟩
    have KB_0 : Hid (Blk W0 w.heap.size 24 cs) := by rw [hW0]; exact Blk.new _ _ _
    have BE_0 : Hid (Below w.heap.size w W0) := by rw [hW0]; exact (Below.refl _ w).alloc (Nat.le_refl _) _
    have HW := Lib.hid hW0
    rw [← HC.out]
    clear hW0
    go_enter Try.func5, Try.ntmps5
    go_wp2_with fail
    rw [← HW.out]
    clear l0 HW
    refine (CSh.out _).mono ?_
    rintro e v1 ⟨rfl, b1⟩
    have KB_1 := Lib.hid (KB_0.out.below b1 KB_0.out.lt)
    have BE_1 := Lib.hid (BE_0.out.trans (b1.mono BE_0.out.size))
    clear KB_0 BE_0
    clear b1
    go_wp2_with fail
    refine (awake19 _).mono ?_
    rintro e v2 ⟨rfl, b2⟩
    have KB_2 := Lib.hid (KB_1.out.below b2 KB_1.out.lt)
    have BE_2 := Lib.hid (BE_1.out.trans (b2.mono BE_1.out.size))
    clear KB_1 BE_1
    clear b2
    go_wp2_with fail
    go_ret
    exact ⟨rfl, BE_2.out⟩
  | true =>
    have CSh : Hid (∀ W, Calls Try.prog 10 #[.agg cs] W (Ret (.bool true) W)) := fun W => by rw [HC.out, ← hs]; exact short_any r W
    have hlim := lim_of_few (few_of_short hs)
    have C1 : Hid (∀ W, Calls Try.prog 18 #[.agg cs] W (RetBytes r.enc W)) := fun W => by rw [HC.out]; exact encode_any r W hlim ho
    have C2 : Hid (∀ W, Calls Try.prog 19 #[.agg cs] W (RetBytes r.enc W)) := fun W => by rw [HC.out]; exact encodeR_any r W hlim ho
    generalize r.enc = en at *
    clear hs ho hlim
    obtain ⟨W0, hW0⟩ : ∃ W0, W0 = w.alloc (.cells cs 24) := ⟨_, rfl⟩
    have KB_0 : Hid (Blk W0 w.heap.size 24 cs) := by rw [hW0]; exact Blk.new _ _ _
    have BE_0 : Hid (Below w.heap.size w W0) := by rw [hW0]; exact (Below.refl _ w).alloc (Nat.le_refl _) _
    have HW := Lib.hid hW0
    rw [← HC.out]
    clear hW0
    go_enter Try.func5, Try.ntmps5
    go_wp2_with fail
    rw [← HW.out]
    clear l0 HW
    refine (CSh.out _).mono ?_
    rintro e v1 ⟨rfl, b1⟩
    have KB_1 := Lib.hid (KB_0.out.below b1 KB_0.out.lt)
    have BE_1 := Lib.hid (BE_0.out.trans (b1.mono BE_0.out.size))
    clear KB_0 BE_0
    clear b1
    go_wp2_with fail
    have F : Below v1.heap.size v1 v1.drew := (Below.refl _ _).drew
    have KB_2 := Lib.hid (KB_1.out.below F KB_1.out.lt)
    have BE_2 := Lib.hid (BE_1.out.trans (F.mono BE_1.out.size))
    clear KB_1 BE_1
    clear F
    refine Reg.start (by kernel_rfl) ?_
    refine Reg.take 0 (v := ?_) rfl (by kernel_rfl) (fun _ _ _ h => h) rfl ?_ ?_
    rotate_left
    · intro W hW
      have l1 : (loadRow 24 (.pointer (some ⟨w.heap.size, 0, none⟩))).run Try.prog W = .ok (.agg cs) W := load_rc (KB_2.out.below hW.all KB_2.out.lt) HCS.out
      go_simp
      try with_reducible rfl
    try simp only [Act.put, List.setIfInBounds_toArray, List.set_cons_zero, List.set_cons_succ]
    refine Reg.take 3 (v := ?_) rfl (by kernel_rfl) (fun _ _ _ h => h) rfl ?_ ?_
    rotate_left
    · intro W hW
      have l1 : (loadRow 24 (.pointer (some ⟨w.heap.size, 0, none⟩))).run Try.prog W = .ok (.agg cs) W := load_rc (KB_2.out.below hW.all KB_2.out.lt) HCS.out
      go_simp
      try with_reducible rfl
    try simp only [Act.put, List.setIfInBounds_toArray, List.set_cons_zero, List.set_cons_succ]
    refine Reg.do_ 1 rfl (by kernel_rfl) rfl (fun K hK => ?_)
    go_simp
    refine (C1.out _).mono ?_
    rintro e v2 ⟨xS1, rfl, oS1, fS1, b2⟩
    have KB_3 := Lib.hid (KB_2.out.below b2 KB_2.out.lt)
    have BE_3 := Lib.hid (BE_2.out.trans (b2.mono BE_2.out.size))
    clear KB_2 BE_2
    obtain ⟨AS1, cS1, rfl, sS1⟩ := own_form oS1
    have S1_0 := Lib.hid sS1
    clear oS1 fS1 sS1
    refine hK.out _ _ b2 ?_
    clear hK K b2
    try simp only [Act.put, List.setIfInBounds_toArray, List.set_cons_zero, List.set_cons_succ]
    refine Reg.take 2 (v := ?_) rfl (by kernel_rfl) (fun _ _ _ h => h) rfl ?_ ?_
    rotate_left
    · intro W hW
      have cv := run_string_sl (P := Try.prog) (w := W) 38 9 5 Try.underlying38 Try.underlying5 Try.underlying9 (S1_0.out.below hW.all (Nat.le_refl _)) cS1
      go_simp
      try with_reducible rfl
    try simp only [Act.put, List.setIfInBounds_toArray, List.set_cons_zero, List.set_cons_succ]
    refine Reg.do_ 4 rfl (by kernel_rfl) rfl (fun K hK => ?_)
    go_simp
    refine (C2.out _).mono ?_
    rintro e v3 ⟨xS2, rfl, oS2, fS2, b3⟩
    have KB_4 := Lib.hid (KB_3.out.below b3 KB_3.out.lt)
    have BE_4 := Lib.hid (BE_3.out.trans (b3.mono BE_3.out.size))
    have S1_1 := Lib.hid (S1_0.out.below b3 (Nat.le_refl _))
    clear KB_3 BE_3 S1_0
    obtain ⟨AS2, cS2, rfl, sS2⟩ := own_form oS2
    have S2_0 := Lib.hid sS2
    clear oS2 fS2 sS2
    refine hK.out _ _ b3 ?_
    clear hK K b3
    try simp only [Act.put, List.setIfInBounds_toArray, List.set_cons_zero, List.set_cons_succ]
    refine Reg.take 5 (v := ?_) rfl (by kernel_rfl) (fun _ _ _ h => h) rfl ?_ ?_
    rotate_left
    · intro W hW
      have cv := run_string_sl (P := Try.prog) (w := W) 38 9 5 Try.underlying38 Try.underlying5 Try.underlying9 (S2_0.out.below hW.all (Nat.le_refl _)) cS2
      go_simp
      try with_reducible rfl
    try simp only [Act.put, List.setIfInBounds_toArray, List.set_cons_zero, List.set_cons_succ]
    refine Reg.take 6 (v := ?_) rfl (by kernel_rfl) (fun _ _ _ h => h) rfl ?_ ?_
    rotate_left
    · intro W hW
      go_simp
      try with_reducible rfl
    try simp only [Act.put, List.setIfInBounds_toArray, List.set_cons_zero, List.set_cons_succ]
    refine Reg.take 7 (v := ?_) rfl (by kernel_rfl) (fun _ _ _ h => h) rfl ?_ ?_
    rotate_left
    · intro W hW
      go_simp
      try with_reducible rfl
    try simp only [Act.put, List.setIfInBounds_toArray, List.set_cons_zero, List.set_cons_succ]
    refine Reg.do_ 8 rfl (by kernel_rfl) rfl (fun K hK => ?_)
    go_simp
    refine (awake19 _).mono ?_
    rintro e v4 ⟨rfl, b4⟩
    have KB_5 := Lib.hid (KB_4.out.below b4 KB_4.out.lt)
    have BE_5 := Lib.hid (BE_4.out.trans (b4.mono BE_4.out.size))
    have S1_2 := Lib.hid (S1_1.out.below b4 (Nat.le_refl _))
    have S2_1 := Lib.hid (S2_0.out.below b4 (Nat.le_refl _))
    clear KB_4 BE_4 S1_1 S2_0
    refine hK.out _ _ b4 ?_
    clear hK K b4
    try simp only [Act.put, List.setIfInBounds_toArray, List.set_cons_zero, List.set_cons_succ]
    refine Reg.take 9 (v := ?_) rfl (by kernel_rfl) (fun _ _ _ h => h) rfl ?_ ?_
    rotate_left
    · intro W hW
      go_simp
      try with_reducible rfl
    try simp only [Act.put, List.setIfInBounds_toArray, List.set_cons_zero, List.set_cons_succ]
    refine Reg.take 10 (v := ?_) rfl (by kernel_rfl) (fun _ _ _ h => h) rfl ?_ ?_
    rotate_left
    · intro W hW
      go_simp
      try with_reducible rfl
    try simp only [Act.put, List.setIfInBounds_toArray, List.set_cons_zero, List.set_cons_succ]
    refine Reg.done (by kernel_rfl) ?_
    go_wp2_with fail
    go_ret
    exact ⟨rfl, BE_5.out⟩
end Go.Proofs.Ytjnaooiklcbemaa.Rt
