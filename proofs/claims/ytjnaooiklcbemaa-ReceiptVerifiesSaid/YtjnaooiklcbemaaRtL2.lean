/-
  The walk of ReceiptIssues. Conditions: numbers of their kinds.
-/
import Derived.Test.YtjnaooiklcbemaaRtAwake
import Derived.Test.YtjnaooiklcbemaaReg
namespace Go.Proofs.Ytjnaooiklcbemaa.Rt
open Go.RowKit Go.Proofs.Ytjnaooiklcbemaa.Mem Go.Proofs.Ytjnaooiklcbemaa.Wr Go.Proofs.Ytjnaooiklcbemaa.Dg
attribute [local go_sem ↓] exec_load_rc exec_store_rc

theorem size_tk : (Try.prog.info? 35).map (·.size) = some 14 := by kernel_rfl
theorem exec_load_tk (ρ : Operand → Value) (dst : Option Tmp) (x : Operand) (ty : TypeId) (pos : String) (after : Array Edge) (guard : Option (Nat × Bool)) :
    execOp ρ { dst, op := .load 35 x, type := ty, pos, after, guard } = (do pure (.value (← loadRow 35 (ρ x)))) := rfl
theorem load_tk {W : World} {g : Nat} {cs : Array Value} (h : Blk W g 35 cs) (hs : cs.size = 14) : (loadRow 35 (.pointer (some ⟨g, 0, none⟩))).run Try.prog W = .ok (.agg cs) W :=
  run_loadRow h Try.underlying35 (size_tk.trans (congrArg some hs.symm))
attribute [local go_sem ↓] exec_load_tk
set_option maxRecDepth 100000 in
set_option maxHeartbeats 4000000 in
theorem issues_walk (key : Int) (num game slip : ByteArray) (first price date : Int) (tc : Array Value) (w : World) (hk : U64 key) (ht : IsTk tc num game first price date) (ho : (bare num game slip first price date).ok) (hz : num.size ≤ 9223372036854775807) (hz1 : game.size ≤ 9223372036854775807) (hz2 : slip.size ≤ 9223372036854775807) :
    Calls Try.prog 4 #[.int .u64 key, .agg tc, .string slip] w fun e w' => e = .returned (.bool true) ∧ Below w.heap.size w w' := by
  obtain ⟨y2, y3, y4, y5, y6, y10, y11, y12, y13, rfl⟩ := ht
  by_cases z0 : num.size ≤ 2000
  · have i0 : ((num.size : Nat) : Int) ≤ 2000 := by omega
    by_cases z1 : game.size ≤ 2000
    · have i1 : ((game.size : Nat) : Int) ≤ 2000 := by omega
      by_cases z2 : slip.size ≤ 2000
      · have i2 : ((slip.size : Nat) : Int) ≤ 2000 := by omega
        have hl : (bare num game slip first price date).lim := ⟨Nat.le_trans z0 (by omega), Nat.le_trans z1 (by omega), Nat.le_trans z2 (by omega)⟩
        have htk : IsTk #[.string num, .string game, y2, y3, y4, y5, y6, .int .i64 first, .int .i64 price, .int .i64 date, y10, y11, y12, y13] num game first price date := ⟨_, _, _, _, _, _, _, _, _, rfl⟩
        have C1 : Hid (∀ W, Calls Try.prog 16 #[.int .u64 key, .agg #[.string num, .string game, y2, y3, y4, y5, y6, .int .i64 first, .int .i64 price, .int .i64 date, y10, y11, y12, y13], .string slip] W (Ret (.agg (issued key num game slip first price date).cells) W)) := fun W => issue_any key num game slip first price date _ W hk htk hl ho
        have C2 : Hid (∀ W, Calls Try.prog 17 #[.int .u64 key, .agg #[.string num, .string game, y2, y3, y4, y5, y6, .int .i64 first, .int .i64 price, .int .i64 date, y10, y11, y12, y13], .string slip] W (Ret (.agg (issued key num game slip first price date).cells) W)) := fun W => issueR_any key num game slip first price date _ W hk htk hl ho
        have HEQ : Hid (∀ W, (binOp .eql 24 (.agg (issued key num game slip first price date).cells) (.agg (issued key num game slip first price date).cells)).run Try.prog W = .ok (.bool true) W) := fun W => (run_rc_eql _ _ W).trans (by rw [(sameR_iff (issued key num game slip first price date) (issued key num game slip first price date)).2 rfl])
        generalize (issued key num game slip first price date).cells = ic at *
        clear hk ho hl htk
        obtain ⟨W0, hW0⟩ : ∃ W0, W0 = w.alloc (.cells #[.string num, .string game, y2, y3, y4, y5, y6, .int .i64 first, .int .i64 price, .int .i64 date, y10, y11, y12, y13] 35) := ⟨_, rfl⟩
        have KB_0 : Hid (Blk W0 w.heap.size 35 #[.string num, .string game, y2, y3, y4, y5, y6, .int .i64 first, .int .i64 price, .int .i64 date, y10, y11, y12, y13]) := by rw [hW0]; exact Blk.new _ _ _
        have BE_0 : Hid (Below w.heap.size w W0) := by rw [hW0]; exact (Below.refl _ w).alloc (Nat.le_refl _) _
        have HW := Lib.hid hW0
        clear hW0
        go_enter Try.func4, Try.ntmps4
        go_wp2_with fail
        rw [← HW.out]
        clear HW
        have F : Below W0.heap.size W0 W0.drew := (Below.refl _ _).drew
        have KB_1 := Lib.hid (KB_0.out.below F KB_0.out.lt)
        have BE_1 := Lib.hid (BE_0.out.trans (F.mono BE_0.out.size))
        clear KB_0 BE_0
        clear F
        refine Reg.start (by kernel_rfl) ?_
        refine Reg.take 0 (v := ?_) rfl (by kernel_rfl) (fun _ _ _ h => h) rfl ?_ ?_
        rotate_left
        · intro W hW
          go_simp
          try with_reducible rfl
        try simp only [Act.put, List.setIfInBounds_toArray, List.set_cons_zero, List.set_cons_succ]
        refine Reg.take 1 (v := ?_) rfl (by kernel_rfl) (fun _ _ _ h => h) rfl ?_ ?_
        rotate_left
        · intro W hW
          have l1 : (loadRow 35 (.pointer (some ⟨w.heap.size, 0, none⟩))).run Try.prog W = .ok (.agg #[.string num, .string game, y2, y3, y4, y5, y6, .int .i64 first, .int .i64 price, .int .i64 date, y10, y11, y12, y13]) W := load_tk (KB_1.out.below hW.all KB_1.out.lt) rfl
          go_simp
          try with_reducible rfl
        try simp only [Act.put, List.setIfInBounds_toArray, List.set_cons_zero, List.set_cons_succ]
        refine Reg.take 2 (v := ?_) rfl (by kernel_rfl) (fun _ _ _ h => h) rfl ?_ ?_
        rotate_left
        · intro W hW
          go_simp
          try with_reducible rfl
        try simp only [Act.put, List.setIfInBounds_toArray, List.set_cons_zero, List.set_cons_succ]
        refine Reg.take 4 (v := ?_) rfl (by kernel_rfl) (fun _ _ _ h => h) rfl ?_ ?_
        rotate_left
        · intro W hW
          go_simp
          try with_reducible rfl
        try simp only [Act.put, List.setIfInBounds_toArray, List.set_cons_zero, List.set_cons_succ]
        refine Reg.take 5 (v := ?_) rfl (by kernel_rfl) (fun _ _ _ h => h) rfl ?_ ?_
        rotate_left
        · intro W hW
          have l1 : (loadRow 35 (.pointer (some ⟨w.heap.size, 0, none⟩))).run Try.prog W = .ok (.agg #[.string num, .string game, y2, y3, y4, y5, y6, .int .i64 first, .int .i64 price, .int .i64 date, y10, y11, y12, y13]) W := load_tk (KB_1.out.below hW.all KB_1.out.lt) rfl
          go_simp
          try with_reducible rfl
        try simp only [Act.put, List.setIfInBounds_toArray, List.set_cons_zero, List.set_cons_succ]
        refine Reg.take 6 (v := ?_) rfl (by kernel_rfl) (fun _ _ _ h => h) rfl ?_ ?_
        rotate_left
        · intro W hW
          go_simp
          try with_reducible rfl
        try simp only [Act.put, List.setIfInBounds_toArray, List.set_cons_zero, List.set_cons_succ]
        refine Reg.do_ 3 rfl (by kernel_rfl) rfl (fun K hK => ?_)
        go_simp
        refine (C1.out _).mono ?_
        rintro e v1 ⟨rfl, b1⟩
        have KB_2 := Lib.hid (KB_1.out.below b1 KB_1.out.lt)
        have BE_2 := Lib.hid (BE_1.out.trans (b1.mono BE_1.out.size))
        clear KB_1 BE_1
        refine hK.out _ _ b1 ?_
        clear hK K b1
        try simp only [Act.put, List.setIfInBounds_toArray, List.set_cons_zero, List.set_cons_succ]
        refine Reg.do_ 7 rfl (by kernel_rfl) rfl (fun K hK => ?_)
        go_simp
        refine (C2.out _).mono ?_
        rintro e v2 ⟨rfl, b2⟩
        have KB_3 := Lib.hid (KB_2.out.below b2 KB_2.out.lt)
        have BE_3 := Lib.hid (BE_2.out.trans (b2.mono BE_2.out.size))
        clear KB_2 BE_2
        refine hK.out _ _ b2 ?_
        clear hK K b2
        try simp only [Act.put, List.setIfInBounds_toArray, List.set_cons_zero, List.set_cons_succ]
        refine Reg.take 8 (v := ?_) rfl (by kernel_rfl) (fun _ _ _ h => h) rfl ?_ ?_
        rotate_left
        · intro W hW
          have he := HEQ.out
          go_simp
          try with_reducible rfl
        try simp only [Act.put, List.setIfInBounds_toArray, List.set_cons_zero, List.set_cons_succ]
        refine Reg.take 9 (v := ?_) rfl (by kernel_rfl) (fun _ _ _ h => h) rfl ?_ ?_
        rotate_left
        · intro W hW
          go_simp
          try with_reducible rfl
        try simp only [Act.put, List.setIfInBounds_toArray, List.set_cons_zero, List.set_cons_succ]
        refine Reg.do_ 10 rfl (by kernel_rfl) rfl (fun K hK => ?_)
        go_simp
        refine (awake19 _).mono ?_
        rintro e v3 ⟨rfl, b3⟩
        have KB_4 := Lib.hid (KB_3.out.below b3 KB_3.out.lt)
        have BE_4 := Lib.hid (BE_3.out.trans (b3.mono BE_3.out.size))
        clear KB_3 BE_3
        refine hK.out _ _ b3 ?_
        clear hK K b3
        try simp only [Act.put, List.setIfInBounds_toArray, List.set_cons_zero, List.set_cons_succ]
        refine Reg.take 11 (v := ?_) rfl (by kernel_rfl) (fun _ _ _ h => h) rfl ?_ ?_
        rotate_left
        · intro W hW
          go_simp
          try with_reducible rfl
        try simp only [Act.put, List.setIfInBounds_toArray, List.set_cons_zero, List.set_cons_succ]
        refine Reg.take 12 (v := ?_) rfl (by kernel_rfl) (fun _ _ _ h => h) rfl ?_ ?_
        rotate_left
        · intro W hW
          go_simp
          try with_reducible rfl
        try simp only [Act.put, List.setIfInBounds_toArray, List.set_cons_zero, List.set_cons_succ]
        refine Reg.done (by kernel_rfl) ?_
        go_wp2_with fail
        go_ret
        exact ⟨rfl, BE_4.out⟩
      · have i2 : (2000 : Int) < ((slip.size : Nat) : Int) := by omega
        clear hk ho
        obtain ⟨W0, hW0⟩ : ∃ W0, W0 = w.alloc (.cells #[.string num, .string game, y2, y3, y4, y5, y6, .int .i64 first, .int .i64 price, .int .i64 date, y10, y11, y12, y13] 35) := ⟨_, rfl⟩
        have KB_0 : Hid (Blk W0 w.heap.size 35 #[.string num, .string game, y2, y3, y4, y5, y6, .int .i64 first, .int .i64 price, .int .i64 date, y10, y11, y12, y13]) := by rw [hW0]; exact Blk.new _ _ _
        have BE_0 : Hid (Below w.heap.size w W0) := by rw [hW0]; exact (Below.refl _ w).alloc (Nat.le_refl _) _
        have HW := Lib.hid hW0
        clear hW0
        go_enter Try.func4, Try.ntmps4
        go_wp2_with fail
        rw [← HW.out]
        clear HW
        refine (awake19 _).mono ?_
        rintro e v1 ⟨rfl, b1⟩
        have KB_1 := Lib.hid (KB_0.out.below b1 KB_0.out.lt)
        have BE_1 := Lib.hid (BE_0.out.trans (b1.mono BE_0.out.size))
        clear KB_0 BE_0
        clear b1
        go_wp2_with fail
        go_ret
        exact ⟨rfl, BE_1.out⟩
    · have i1 : (2000 : Int) < ((game.size : Nat) : Int) := by omega
      clear hk ho
      obtain ⟨W0, hW0⟩ : ∃ W0, W0 = w.alloc (.cells #[.string num, .string game, y2, y3, y4, y5, y6, .int .i64 first, .int .i64 price, .int .i64 date, y10, y11, y12, y13] 35) := ⟨_, rfl⟩
      have KB_0 : Hid (Blk W0 w.heap.size 35 #[.string num, .string game, y2, y3, y4, y5, y6, .int .i64 first, .int .i64 price, .int .i64 date, y10, y11, y12, y13]) := by rw [hW0]; exact Blk.new _ _ _
      have BE_0 : Hid (Below w.heap.size w W0) := by rw [hW0]; exact (Below.refl _ w).alloc (Nat.le_refl _) _
      have HW := Lib.hid hW0
      clear hW0
      go_enter Try.func4, Try.ntmps4
      go_wp2_with fail
      rw [← HW.out]
      clear HW
      refine (awake19 _).mono ?_
      rintro e v1 ⟨rfl, b1⟩
      have KB_1 := Lib.hid (KB_0.out.below b1 KB_0.out.lt)
      have BE_1 := Lib.hid (BE_0.out.trans (b1.mono BE_0.out.size))
      clear KB_0 BE_0
      clear b1
      go_wp2_with fail
      go_ret
      exact ⟨rfl, BE_1.out⟩
  · have i0 : (2000 : Int) < ((num.size : Nat) : Int) := by omega
    clear hk ho
    obtain ⟨W0, hW0⟩ : ∃ W0, W0 = w.alloc (.cells #[.string num, .string game, y2, y3, y4, y5, y6, .int .i64 first, .int .i64 price, .int .i64 date, y10, y11, y12, y13] 35) := ⟨_, rfl⟩
    have KB_0 : Hid (Blk W0 w.heap.size 35 #[.string num, .string game, y2, y3, y4, y5, y6, .int .i64 first, .int .i64 price, .int .i64 date, y10, y11, y12, y13]) := by rw [hW0]; exact Blk.new _ _ _
    have BE_0 : Hid (Below w.heap.size w W0) := by rw [hW0]; exact (Below.refl _ w).alloc (Nat.le_refl _) _
    have HW := Lib.hid hW0
    clear hW0
    go_enter Try.func4, Try.ntmps4
    go_wp2_with fail
    rw [← HW.out]
    clear HW
    refine (awake19 _).mono ?_
    rintro e v1 ⟨rfl, b1⟩
    have KB_1 := Lib.hid (KB_0.out.below b1 KB_0.out.lt)
    have BE_1 := Lib.hid (BE_0.out.trans (b1.mono BE_0.out.size))
    clear KB_0 BE_0
    clear b1
    go_wp2_with fail
    go_ret
    exact ⟨rfl, BE_1.out⟩
end Go.Proofs.Ytjnaooiklcbemaa.Rt
