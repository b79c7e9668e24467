/-
  The walk of ReceiptVerifies. Conditions: numbers of their kinds.
-/
import Derived.Test.YtjnaooiklcbemaaRtL2
import Derived.Test.YtjnaooiklcbemaaReg
namespace Go.Proofs.Ytjnaooiklcbemaa.Rt
open Go.RowKit Go.Proofs.Ytjnaooiklcbemaa.Mem Go.Proofs.Ytjnaooiklcbemaa.Wr Go.Proofs.Ytjnaooiklcbemaa.Dg
attribute [local go_sem ↓] exec_load_rc exec_store_rc
attribute [local go_sem ↓] exec_load_tk
set_option maxRecDepth 100000 in
set_option maxHeartbeats 4000000 in
theorem verifies_walk (key other : Int) (num game slip : ByteArray) (first price date turn : Int) (tc : Array Value) (w : World) (hk : U64 key) (hoth : U64 other) (htu : U64 turn) (ht : IsTk tc num game first price date) (ho : (bare num game slip first price date).ok) :
    Calls Try.prog 8 #[.int .u64 key, .int .u64 other, .agg tc, .string slip, .int .u64 turn] w fun e w' => e = .returned (.bool true) ∧ Below w.heap.size w w' := by
  obtain ⟨y2, y3, y4, y5, y6, y10, y11, y12, y13, rfl⟩ := ht
  by_cases z0 : num.size ≤ 2000
  · have i0 : ((num.size : Nat) : Int) ≤ 2000 := by omega
    by_cases z1 : game.size ≤ 2000
    · have i1 : ((game.size : Nat) : Int) ≤ 2000 := by omega
      by_cases z2 : slip.size ≤ 2000
      · have i2 : ((slip.size : Nat) : Int) ≤ 2000 := by omega
        have hl : (bare num game slip first price date).lim := ⟨Nat.le_trans z0 (by omega), Nat.le_trans z1 (by omega), Nat.le_trans z2 (by omega)⟩
        have htk : IsTk #[.string num, .string game, y2, y3, y4, y5, y6, .int .i64 first, .int .i64 price, .int .i64 date, y10, y11, y12, y13] num game first price date := ⟨_, _, _, _, _, _, _, _, _, rfl⟩
        obtain ⟨n, hn⟩ := nat_of (signI_u64 key (bare num game slip first price date))
        have hsn : ((issued key num game slip first price date).sign : Int) = (n : Int) := by rw [issued_sign, hn]
        have hsn2 : (issued key num game slip first price date).sign = n := by omega
        have HI : Hid ((issued key num game slip first price date).cells = #[.string num, .string game, .string slip, .int .i64 first, .int .i64 price, .int .i64 date, .int .u64 (n : Int)]) := by
          show (#[.string num, .string game, .string slip, .int .i64 first, .int .i64 price, .int .i64 date, .int .u64 ((issued key num game slip first price date).sign : Int)] : Array Value) = _
          rw [hsn]
        have HSL : Hid (((issued key num game slip first price date).withSign (bits .xor .u64 ((issued key num game slip first price date).sign : Int) turn).toNat).cells = #[.string num, .string game, .string slip, .int .i64 first, .int .i64 price, .int .i64 date, .int .u64 (bits .xor .u64 (n : Int) turn)]) := by
          show (#[.string num, .string game, .string slip, .int .i64 first, .int .i64 price, .int .i64 date, .int .u64 ((bits .xor .u64 ((issued key num game slip first price date).sign : Int) turn).toNat : Int)] : Array Value) = _
          have := (xor_is_u64 ((issued key num game slip first price date).sign : Int) turn).1
          rw [Int.toNat_of_nonneg this, hsn]
        have C0 : Hid (∀ W, Calls Try.prog 16 #[.int .u64 key, .agg #[.string num, .string game, y2, y3, y4, y5, y6, .int .i64 first, .int .i64 price, .int .i64 date, y10, y11, y12, y13], .string slip] W (Ret (.agg #[.string num, .string game, .string slip, .int .i64 first, .int .i64 price, .int .i64 date, .int .u64 (n : Int)]) W)) := fun W => by rw [← HI.out]; exact issue_any key num game slip first price date _ W hk htk hl ho
        have C1 : Hid (∀ W, Calls Try.prog 14 #[.int .u64 key, .agg #[.string num, .string game, .string slip, .int .i64 first, .int .i64 price, .int .i64 date, .int .u64 (n : Int)]] W (Ret (.int .i64 0) W)) := fun W => by
          have := verify_any key (issued key num game slip first price date) W hk (issued_lim hl) (issued_ok ho)
          rw [ver_issued hk hk, if_pos rfl, HI.out] at this
          exact this
        have CS : Hid (∀ W, Calls Try.prog 12 #[.int .u64 key, .agg #[.string num, .string game, .string slip, .int .i64 first, .int .i64 price, .int .i64 date, .int .u64 (n : Int)]] W (Ret (.int .u64 (n : Int)) W)) := fun W => by
          have := sign_any key (issued key num game slip first price date) W hk (issued_lim hl) (issued_ok ho)
          rw [issued_signI, hn, HI.out] at this
          exact this
        have lt0 : (loadRow 35 (.pointer (some ⟨w.heap.size, 0, none⟩))).run Try.prog (w.alloc (.cells #[.string num, .string game, y2, y3, y4, y5, y6, .int .i64 first, .int .i64 price, .int .i64 date, y10, y11, y12, y13] 35)) = .ok (.agg #[.string num, .string game, y2, y3, y4, y5, y6, .int .i64 first, .int .i64 price, .int .i64 date, y10, y11, y12, y13]) (w.alloc (.cells #[.string num, .string game, y2, y3, y4, y5, y6, .int .i64 first, .int .i64 price, .int .i64 date, y10, y11, y12, y13] 35)) := load_tk (Blk.new _ _ _) rfl
        clear htk hn hsn hsn2
        by_cases hko : key = other
        · by_cases ht0 : turn = 0
          · have tk : (key == other) = true := by simp [hko]
            have tt : (turn == 0) = true := by simp [ht0]
            have C2 : Hid (∀ W, Calls Try.prog 14 #[.int .u64 other, .agg #[.string num, .string game, .string slip, .int .i64 first, .int .i64 price, .int .i64 date, .int .u64 (n : Int)]] W (Ret (.int .i64 0) W)) := fun W => by
              have := verify_any other (issued key num game slip first price date) W hoth (issued_lim hl) (issued_ok ho)
              rw [ver_issued hk hoth, if_pos hko, HI.out] at this
              exact this
            have C3 : Hid (∀ W, Calls Try.prog 14 #[.int .u64 key, .agg #[.string num, .string game, .string slip, .int .i64 first, .int .i64 price, .int .i64 date, .int .u64 (bits .xor .u64 (n : Int) turn)]] W (Ret (.int .i64 0) W)) := fun W => by
              have h3 := ver_turn (key := key) htu num game slip first price date
              have := verify_any key ((issued key num game slip first price date).withSign (bits .xor .u64 ((issued key num game slip first price date).sign : Int) turn).toNat) W hk (withSign_lim (issued_lim hl)) (withSign_ok (issued_ok ho) (by
                have := xor_is_u64 ((issued key num game slip first price date).sign : Int) turn
                have h1 := this.1
                have h2 := this.2
                omega))
              rw [h3, if_pos ht0, HSL.out] at this
              exact this
            clear hk hoth htu ho hl hko ht0
            obtain ⟨W0, hW0⟩ : ∃ W0, W0 = w.alloc (.cells #[.string num, .string game, y2, y3, y4, y5, y6, .int .i64 first, .int .i64 price, .int .i64 date, y10, y11, y12, y13] 35) := ⟨_, rfl⟩
            have KB_0 : Hid (Blk W0 w.heap.size 35 #[.string num, .string game, y2, y3, y4, y5, y6, .int .i64 first, .int .i64 price, .int .i64 date, y10, y11, y12, y13]) := by rw [hW0]; exact Blk.new _ _ _
            have BE_0 : Hid (Below w.heap.size w W0) := by rw [hW0]; exact (Below.refl _ w).alloc (Nat.le_refl _) _
            have HW := Lib.hid hW0
            clear hW0
            go_enter Try.func8, Try.ntmps8
            go_wp2_with fail
            rw [← HW.out]
            clear HW
            refine (C0.out _).mono ?_
            rintro e v1 ⟨rfl, b1⟩
            have KB_1 := Lib.hid (KB_0.out.below b1 KB_0.out.lt)
            have BE_1 := Lib.hid (BE_0.out.trans (b1.mono BE_0.out.size))
            clear KB_0 BE_0
            clear b1
            obtain ⟨g11, hg11⟩ : ∃ g11, g11 = v1.heap.size := ⟨_, rfl⟩
            have kz : Blk (v1.alloc (.cells #[.string ⟨#[]⟩, .string ⟨#[]⟩, .string ⟨#[]⟩, .int .i64 0, .int .i64 0, .int .i64 0, .int .u64 0] 24)) v1.heap.size 24 #[.string ⟨#[]⟩, .string ⟨#[]⟩, .string ⟨#[]⟩, .int .i64 0, .int .i64 0, .int .i64 0, .int .u64 0] := Blk.new _ _ _
            have st := store_rc (cs := #[.string num, .string game, .string slip, .int .i64 first, .int .i64 price, .int .i64 date, .int .u64 (n : Int)]) kz rfl rfl rfl
            obtain ⟨W1, hW1⟩ : ∃ W1, W1 = World.setRow (v1.alloc (.cells #[.string ⟨#[]⟩, .string ⟨#[]⟩, .string ⟨#[]⟩, .int .i64 0, .int .i64 0, .int .i64 0, .int .u64 0] 24)) v1.heap.size #[.string num, .string game, .string slip, .int .i64 first, .int .i64 price, .int .i64 date, .int .u64 (n : Int)] := ⟨_, rfl⟩
            have F : Below v1.heap.size v1 W1 := by rw [hW1]; exact ((Below.refl _ _).alloc (Nat.le_refl _) _).trans ((frm_setRow _ _ _).below (by simp) (fun i hi e => by omega))
            have KB_2 := Lib.hid (KB_1.out.below F KB_1.out.lt)
            have BE_2 := Lib.hid (BE_1.out.trans (F.mono BE_1.out.size))
            clear KB_1 BE_1
            have Kg11_0 : Hid (Blk W1 g11 24 #[.string num, .string game, .string slip, .int .i64 first, .int .i64 price, .int .i64 date, .int .u64 (n : Int)]) := by rw [hW1, hg11]; exact Blk_setRow kz _
            rw [← hW1] at st
            clear hW1 kz F
            obtain ⟨g12, hg12⟩ : ∃ g12, g12 = W1.heap.size := ⟨_, rfl⟩
            have l1 : (loadRow 24 (.pointer (some ⟨v1.heap.size, 0, none⟩))).run Try.prog W1 = .ok (.agg #[.string num, .string game, .string slip, .int .i64 first, .int .i64 price, .int .i64 date, .int .u64 (n : Int)]) W1 := by rw [← hg11]; exact load_rc Kg11_0.out rfl
            have kz2 : Blk (W1.alloc (.cells #[.string ⟨#[]⟩, .string ⟨#[]⟩, .string ⟨#[]⟩, .int .i64 0, .int .i64 0, .int .i64 0, .int .u64 0] 24)) W1.heap.size 24 #[.string ⟨#[]⟩, .string ⟨#[]⟩, .string ⟨#[]⟩, .int .i64 0, .int .i64 0, .int .i64 0, .int .u64 0] := Blk.new _ _ _
            have st2 := store_rc (cs := #[.string num, .string game, .string slip, .int .i64 first, .int .i64 price, .int .i64 date, .int .u64 (n : Int)]) kz2 rfl rfl rfl
            obtain ⟨W2, hW2⟩ : ∃ W2, W2 = World.setRow (W1.alloc (.cells #[.string ⟨#[]⟩, .string ⟨#[]⟩, .string ⟨#[]⟩, .int .i64 0, .int .i64 0, .int .i64 0, .int .u64 0] 24)) W1.heap.size #[.string num, .string game, .string slip, .int .i64 first, .int .i64 price, .int .i64 date, .int .u64 (n : Int)] := ⟨_, rfl⟩
            have K12 : Blk W2 W1.heap.size 24 #[.string num, .string game, .string slip, .int .i64 first, .int .i64 price, .int .i64 date, .int .u64 (n : Int)] := by rw [hW2]; exact Blk_setRow kz2 _
            have F12 : Below W1.heap.size W1 W2 := by rw [hW2]; exact ((Below.refl _ _).alloc (Nat.le_refl _) _).trans ((frm_setRow _ _ _).below (by simp) (fun i hi e => by omega))
            rw [← hW2] at st2
            have q6 : W2.cell? ⟨v1.heap.size, 6, none⟩ = some (.int .u64 (n : Int)) := by rw [← hg11]; exact (Kg11_0.out.below F12 Kg11_0.out.lt).cell 6
            have q12 : W2.cell? ⟨W1.heap.size, 6, none⟩ = some (.int .u64 (n : Int)) := K12.cell 6
            have z12 : W2.frozen? ⟨W1.heap.size, 6, none⟩ = false := K12.frozen 6
            have F : Below W1.heap.size W1 (W2.setCell ⟨g12, 6, none⟩ (.int .u64 (bits .xor .u64 (n : Int) turn))) := F12.setCell (p := ⟨g12, 6, none⟩) (by show W1.heap.size ≤ g12; omega) _
            have la : (loadRow 24 (.pointer (some ⟨v1.heap.size, 0, none⟩))).run Try.prog (W2.setCell ⟨W1.heap.size, 6, none⟩ (.int .u64 (bits .xor .u64 (n : Int) turn))) = .ok (.agg #[.string num, .string game, .string slip, .int .i64 first, .int .i64 price, .int .i64 date, .int .u64 (n : Int)]) (W2.setCell ⟨W1.heap.size, 6, none⟩ (.int .u64 (bits .xor .u64 (n : Int) turn))) := by rw [← hg11, ← hg12]; exact load_rc (Kg11_0.out.below F Kg11_0.out.lt) rfl
            have KB_3 := Lib.hid (KB_2.out.below F KB_2.out.lt)
            have BE_3 := Lib.hid (BE_2.out.trans (F.mono BE_2.out.size))
            have Kg11_1 := Lib.hid (Kg11_0.out.below F Kg11_0.out.lt)
            clear KB_2 BE_2 Kg11_0
            have Kg12_0 : Hid (Blk (W2.setCell ⟨g12, 6, none⟩ (.int .u64 (bits .xor .u64 (n : Int) turn))) g12 24 #[.string num, .string game, .string slip, .int .i64 first, .int .i64 price, .int .i64 date, .int .u64 (bits .xor .u64 (n : Int) turn)]) := by rw [hg12]; exact K12.put 6 _
            clear hW2 kz2 K12 F12 F
            go_wp2_with fail
            clear st l1 st2 q6 q12 z12 la
            rw [← hg11, ← hg12]
            clear hg11 hg12
            generalize W2.setCell ⟨g12, 6, none⟩ (.int .u64 (bits .xor .u64 (n : Int) turn)) = W3 at *
            refine (C1.out _).mono ?_
            rintro e v2 ⟨rfl, b2⟩
            have KB_4 := Lib.hid (KB_3.out.below b2 KB_3.out.lt)
            have BE_4 := Lib.hid (BE_3.out.trans (b2.mono BE_3.out.size))
            have Kg11_2 := Lib.hid (Kg11_1.out.below b2 Kg11_1.out.lt)
            have Kg12_1 := Lib.hid (Kg12_0.out.below b2 Kg12_0.out.lt)
            clear KB_3 BE_3 Kg11_1 Kg12_0
            clear b2
            have la : (loadRow 24 (.pointer (some ⟨g11, 0, none⟩))).run Try.prog v2 = .ok (.agg #[.string num, .string game, .string slip, .int .i64 first, .int .i64 price, .int .i64 date, .int .u64 (n : Int)]) v2 := load_rc Kg11_2.out rfl
            go_wp2_with fail
            clear la
            refine (C2.out _).mono ?_
            rintro e v3 ⟨rfl, b3⟩
            have KB_5 := Lib.hid (KB_4.out.below b3 KB_4.out.lt)
            have BE_5 := Lib.hid (BE_4.out.trans (b3.mono BE_4.out.size))
            have Kg11_3 := Lib.hid (Kg11_2.out.below b3 Kg11_2.out.lt)
            have Kg12_2 := Lib.hid (Kg12_1.out.below b3 Kg12_1.out.lt)
            clear KB_4 BE_4 Kg11_2 Kg12_1
            clear b3
            have la : (loadRow 24 (.pointer (some ⟨g12, 0, none⟩))).run Try.prog v3 = .ok (.agg #[.string num, .string game, .string slip, .int .i64 first, .int .i64 price, .int .i64 date, .int .u64 (bits .xor .u64 (n : Int) turn)]) v3 := load_rc Kg12_2.out rfl
            go_wp2_with fail
            clear la
            refine (C3.out _).mono ?_
            rintro e v4 ⟨rfl, b4⟩
            have KB_6 := Lib.hid (KB_5.out.below b4 KB_5.out.lt)
            have BE_6 := Lib.hid (BE_5.out.trans (b4.mono BE_5.out.size))
            have Kg11_4 := Lib.hid (Kg11_3.out.below b4 Kg11_3.out.lt)
            have Kg12_3 := Lib.hid (Kg12_2.out.below b4 Kg12_2.out.lt)
            clear KB_5 BE_5 Kg11_3 Kg12_2
            clear b4
            go_wp2_with fail
            have F : Below v4.heap.size v4 v4.drew := (Below.refl _ _).drew
            have KB_7 := Lib.hid (KB_6.out.below F KB_6.out.lt)
            have BE_7 := Lib.hid (BE_6.out.trans (F.mono BE_6.out.size))
            have Kg11_5 := Lib.hid (Kg11_4.out.below F Kg11_4.out.lt)
            clear KB_6 BE_6 Kg11_4
            clear F
            refine Reg.start (by kernel_rfl) ?_
            refine Reg.take 0 (v := ?_) rfl (by kernel_rfl) (fun _ _ _ h => h) rfl ?_ ?_
            rotate_left
            · intro W hW
              go_simp
              try with_reducible rfl
            try simp only [Act.put, List.setIfInBounds_toArray, List.set_cons_zero, List.set_cons_succ]
            refine Reg.take 1 (v := ?_) rfl (by kernel_rfl) (fun _ _ _ h => h) rfl ?_ ?_
            rotate_left
            · intro W hW
              have l1 : W.cell? ⟨g11, 0, none⟩ = some (.string num) := (Kg11_5.out.below hW.all Kg11_5.out.lt).cell 0
              go_simp
              try with_reducible rfl
            try simp only [Act.put, List.setIfInBounds_toArray, List.set_cons_zero, List.set_cons_succ]
            refine Reg.take 2 (v := ?_) rfl (by kernel_rfl) (fun _ _ _ h => h) rfl ?_ ?_
            rotate_left
            · intro W hW
              go_simp
              try with_reducible rfl
            try simp only [Act.put, List.setIfInBounds_toArray, List.set_cons_zero, List.set_cons_succ]
            refine Reg.take 3 (v := ?_) rfl (by kernel_rfl) (fun _ _ _ h => h) rfl ?_ ?_
            rotate_left
            · intro W hW
              have l1 : W.cell? ⟨w.heap.size, 0, none⟩ = some (.string num) := (KB_7.out.below hW.all KB_7.out.lt).cell 0
              go_simp
              try with_reducible rfl
            try simp only [Act.put, List.setIfInBounds_toArray, List.set_cons_zero, List.set_cons_succ]
            refine Reg.take 4 (v := ?_) rfl (by kernel_rfl) (fun _ _ _ h => h) rfl ?_ ?_
            rotate_left
            · intro W hW
              go_simp
              try with_reducible rfl
            try simp only [Act.put, List.setIfInBounds_toArray, List.set_cons_zero, List.set_cons_succ]
            refine Reg.take 5 (v := ?_) rfl (by kernel_rfl) (fun _ _ _ h => h) rfl ?_ ?_
            rotate_left
            · intro W hW
              go_simp
              try with_reducible rfl
            try simp only [Act.put, List.setIfInBounds_toArray, List.set_cons_zero, List.set_cons_succ]
            refine Reg.take 6 (v := ?_) rfl (by kernel_rfl) (fun _ _ _ h => h) rfl ?_ ?_
            rotate_left
            · intro W hW
              go_simp
              try with_reducible rfl
            try simp only [Act.put, List.setIfInBounds_toArray, List.set_cons_zero, List.set_cons_succ]
            refine Reg.take 7 (v := ?_) rfl (by kernel_rfl) (fun _ _ _ h => h) rfl ?_ ?_
            rotate_left
            · intro W hW
              have l1 : W.cell? ⟨g11, 1, none⟩ = some (.string game) := (Kg11_5.out.below hW.all Kg11_5.out.lt).cell 1
              go_simp
              try with_reducible rfl
            try simp only [Act.put, List.setIfInBounds_toArray, List.set_cons_zero, List.set_cons_succ]
            refine Reg.take 8 (v := ?_) rfl (by kernel_rfl) (fun _ _ _ h => h) rfl ?_ ?_
            rotate_left
            · intro W hW
              go_simp
              try with_reducible rfl
            try simp only [Act.put, List.setIfInBounds_toArray, List.set_cons_zero, List.set_cons_succ]
            refine Reg.take 9 (v := ?_) rfl (by kernel_rfl) (fun _ _ _ h => h) rfl ?_ ?_
            rotate_left
            · intro W hW
              have l1 : W.cell? ⟨w.heap.size, 1, none⟩ = some (.string game) := (KB_7.out.below hW.all KB_7.out.lt).cell 1
              go_simp
              try with_reducible rfl
            try simp only [Act.put, List.setIfInBounds_toArray, List.set_cons_zero, List.set_cons_succ]
            refine Reg.take 10 (v := ?_) rfl (by kernel_rfl) (fun _ _ _ h => h) rfl ?_ ?_
            rotate_left
            · intro W hW
              go_simp
              try with_reducible rfl
            try simp only [Act.put, List.setIfInBounds_toArray, List.set_cons_zero, List.set_cons_succ]
            refine Reg.take 11 (v := ?_) rfl (by kernel_rfl) (fun _ _ _ h => h) rfl ?_ ?_
            rotate_left
            · intro W hW
              go_simp
              try with_reducible rfl
            try simp only [Act.put, List.setIfInBounds_toArray, List.set_cons_zero, List.set_cons_succ]
            refine Reg.take 12 (v := ?_) rfl (by kernel_rfl) (fun _ _ _ h => h) rfl ?_ ?_
            rotate_left
            · intro W hW
              go_simp
              try with_reducible rfl
            try simp only [Act.put, List.setIfInBounds_toArray, List.set_cons_zero, List.set_cons_succ]
            refine Reg.take 13 (v := ?_) rfl (by kernel_rfl) (fun _ _ _ h => h) rfl ?_ ?_
            rotate_left
            · intro W hW
              go_simp
              try with_reducible rfl
            try simp only [Act.put, List.setIfInBounds_toArray, List.set_cons_zero, List.set_cons_succ]
            refine Reg.take 14 (v := ?_) rfl (by kernel_rfl) (fun _ _ _ h => h) rfl ?_ ?_
            rotate_left
            · intro W hW
              have l1 : W.cell? ⟨g11, 2, none⟩ = some (.string slip) := (Kg11_5.out.below hW.all Kg11_5.out.lt).cell 2
              go_simp
              try with_reducible rfl
            try simp only [Act.put, List.setIfInBounds_toArray, List.set_cons_zero, List.set_cons_succ]
            refine Reg.take 15 (v := ?_) rfl (by kernel_rfl) (fun _ _ _ h => h) rfl ?_ ?_
            rotate_left
            · intro W hW
              go_simp
              try with_reducible rfl
            try simp only [Act.put, List.setIfInBounds_toArray, List.set_cons_zero, List.set_cons_succ]
            refine Reg.take 16 (v := ?_) rfl (by kernel_rfl) (fun _ _ _ h => h) rfl ?_ ?_
            rotate_left
            · intro W hW
              go_simp
              try with_reducible rfl
            try simp only [Act.put, List.setIfInBounds_toArray, List.set_cons_zero, List.set_cons_succ]
            refine Reg.take 17 (v := ?_) rfl (by kernel_rfl) (fun _ _ _ h => h) rfl ?_ ?_
            rotate_left
            · intro W hW
              go_simp
              try with_reducible rfl
            try simp only [Act.put, List.setIfInBounds_toArray, List.set_cons_zero, List.set_cons_succ]
            refine Reg.take 18 (v := ?_) rfl (by kernel_rfl) (fun _ _ _ h => h) rfl ?_ ?_
            rotate_left
            · intro W hW
              go_simp
              try with_reducible rfl
            try simp only [Act.put, List.setIfInBounds_toArray, List.set_cons_zero, List.set_cons_succ]
            refine Reg.take 19 (v := ?_) rfl (by kernel_rfl) (fun _ _ _ h => h) rfl ?_ ?_
            rotate_left
            · intro W hW
              go_simp
              try with_reducible rfl
            try simp only [Act.put, List.setIfInBounds_toArray, List.set_cons_zero, List.set_cons_succ]
            refine Reg.take 20 (v := ?_) rfl (by kernel_rfl) (fun _ _ _ h => h) rfl ?_ ?_
            rotate_left
            · intro W hW
              have l1 : W.cell? ⟨g11, 3, none⟩ = some (.int .i64 first) := (Kg11_5.out.below hW.all Kg11_5.out.lt).cell 3
              go_simp
              try with_reducible rfl
            try simp only [Act.put, List.setIfInBounds_toArray, List.set_cons_zero, List.set_cons_succ]
            refine Reg.take 21 (v := ?_) rfl (by kernel_rfl) (fun _ _ _ h => h) rfl ?_ ?_
            rotate_left
            · intro W hW
              go_simp
              try with_reducible rfl
            try simp only [Act.put, List.setIfInBounds_toArray, List.set_cons_zero, List.set_cons_succ]
            refine Reg.take 22 (v := ?_) rfl (by kernel_rfl) (fun _ _ _ h => h) rfl ?_ ?_
            rotate_left
            · intro W hW
              have l1 : W.cell? ⟨w.heap.size, 7, none⟩ = some (.int .i64 first) := (KB_7.out.below hW.all KB_7.out.lt).cell 7
              go_simp
              try with_reducible rfl
            try simp only [Act.put, List.setIfInBounds_toArray, List.set_cons_zero, List.set_cons_succ]
            refine Reg.take 23 (v := ?_) rfl (by kernel_rfl) (fun _ _ _ h => h) rfl ?_ ?_
            rotate_left
            · intro W hW
              go_simp
              try with_reducible rfl
            try simp only [Act.put, List.setIfInBounds_toArray, List.set_cons_zero, List.set_cons_succ]
            refine Reg.take 24 (v := ?_) rfl (by kernel_rfl) (fun _ _ _ h => h) rfl ?_ ?_
            rotate_left
            · intro W hW
              go_simp
              try with_reducible rfl
            try simp only [Act.put, List.setIfInBounds_toArray, List.set_cons_zero, List.set_cons_succ]
            refine Reg.take 25 (v := ?_) rfl (by kernel_rfl) (fun _ _ _ h => h) rfl ?_ ?_
            rotate_left
            · intro W hW
              go_simp
              try with_reducible rfl
            try simp only [Act.put, List.setIfInBounds_toArray, List.set_cons_zero, List.set_cons_succ]
            refine Reg.take 26 (v := ?_) rfl (by kernel_rfl) (fun _ _ _ h => h) rfl ?_ ?_
            rotate_left
            · intro W hW
              go_simp
              try with_reducible rfl
            try simp only [Act.put, List.setIfInBounds_toArray, List.set_cons_zero, List.set_cons_succ]
            refine Reg.take 27 (v := ?_) rfl (by kernel_rfl) (fun _ _ _ h => h) rfl ?_ ?_
            rotate_left
            · intro W hW
              have l1 : W.cell? ⟨g11, 4, none⟩ = some (.int .i64 price) := (Kg11_5.out.below hW.all Kg11_5.out.lt).cell 4
              go_simp
              try with_reducible rfl
            try simp only [Act.put, List.setIfInBounds_toArray, List.set_cons_zero, List.set_cons_succ]
            refine Reg.take 28 (v := ?_) rfl (by kernel_rfl) (fun _ _ _ h => h) rfl ?_ ?_
            rotate_left
            · intro W hW
              go_simp
              try with_reducible rfl
            try simp only [Act.put, List.setIfInBounds_toArray, List.set_cons_zero, List.set_cons_succ]
            refine Reg.take 29 (v := ?_) rfl (by kernel_rfl) (fun _ _ _ h => h) rfl ?_ ?_
            rotate_left
            · intro W hW
              have l1 : W.cell? ⟨w.heap.size, 8, none⟩ = some (.int .i64 price) := (KB_7.out.below hW.all KB_7.out.lt).cell 8
              go_simp
              try with_reducible rfl
            try simp only [Act.put, List.setIfInBounds_toArray, List.set_cons_zero, List.set_cons_succ]
            refine Reg.take 30 (v := ?_) rfl (by kernel_rfl) (fun _ _ _ h => h) rfl ?_ ?_
            rotate_left
            · intro W hW
              go_simp
              try with_reducible rfl
            try simp only [Act.put, List.setIfInBounds_toArray, List.set_cons_zero, List.set_cons_succ]
            refine Reg.take 31 (v := ?_) rfl (by kernel_rfl) (fun _ _ _ h => h) rfl ?_ ?_
            rotate_left
            · intro W hW
              go_simp
              try with_reducible rfl
            try simp only [Act.put, List.setIfInBounds_toArray, List.set_cons_zero, List.set_cons_succ]
            refine Reg.take 32 (v := ?_) rfl (by kernel_rfl) (fun _ _ _ h => h) rfl ?_ ?_
            rotate_left
            · intro W hW
              go_simp
              try with_reducible rfl
            try simp only [Act.put, List.setIfInBounds_toArray, List.set_cons_zero, List.set_cons_succ]
            refine Reg.take 33 (v := ?_) rfl (by kernel_rfl) (fun _ _ _ h => h) rfl ?_ ?_
            rotate_left
            · intro W hW
              go_simp
              try with_reducible rfl
            try simp only [Act.put, List.setIfInBounds_toArray, List.set_cons_zero, List.set_cons_succ]
            refine Reg.take 34 (v := ?_) rfl (by kernel_rfl) (fun _ _ _ h => h) rfl ?_ ?_
            rotate_left
            · intro W hW
              have l1 : W.cell? ⟨g11, 5, none⟩ = some (.int .i64 date) := (Kg11_5.out.below hW.all Kg11_5.out.lt).cell 5
              go_simp
              try with_reducible rfl
            try simp only [Act.put, List.setIfInBounds_toArray, List.set_cons_zero, List.set_cons_succ]
            refine Reg.take 35 (v := ?_) rfl (by kernel_rfl) (fun _ _ _ h => h) rfl ?_ ?_
            rotate_left
            · intro W hW
              go_simp
              try with_reducible rfl
            try simp only [Act.put, List.setIfInBounds_toArray, List.set_cons_zero, List.set_cons_succ]
            refine Reg.take 36 (v := ?_) rfl (by kernel_rfl) (fun _ _ _ h => h) rfl ?_ ?_
            rotate_left
            · intro W hW
              have l1 : W.cell? ⟨w.heap.size, 9, none⟩ = some (.int .i64 date) := (KB_7.out.below hW.all KB_7.out.lt).cell 9
              go_simp
              try with_reducible rfl
            try simp only [Act.put, List.setIfInBounds_toArray, List.set_cons_zero, List.set_cons_succ]
            refine Reg.take 37 (v := ?_) rfl (by kernel_rfl) (fun _ _ _ h => h) rfl ?_ ?_
            rotate_left
            · intro W hW
              go_simp
              try with_reducible rfl
            try simp only [Act.put, List.setIfInBounds_toArray, List.set_cons_zero, List.set_cons_succ]
            refine Reg.take 38 (v := ?_) rfl (by kernel_rfl) (fun _ _ _ h => h) rfl ?_ ?_
            rotate_left
            · intro W hW
              go_simp
              try with_reducible rfl
            try simp only [Act.put, List.setIfInBounds_toArray, List.set_cons_zero, List.set_cons_succ]
            refine Reg.take 39 (v := ?_) rfl (by kernel_rfl) (fun _ _ _ h => h) rfl ?_ ?_
            rotate_left
            · intro W hW
              go_simp
              try with_reducible rfl
            try simp only [Act.put, List.setIfInBounds_toArray, List.set_cons_zero, List.set_cons_succ]
            refine Reg.take 40 (v := ?_) rfl (by kernel_rfl) (fun _ _ _ h => h) rfl ?_ ?_
            rotate_left
            · intro W hW
              go_simp
              try with_reducible rfl
            try simp only [Act.put, List.setIfInBounds_toArray, List.set_cons_zero, List.set_cons_succ]
            refine Reg.take 41 (v := ?_) rfl (by kernel_rfl) (fun _ _ _ h => h) rfl ?_ ?_
            rotate_left
            · intro W hW
              have l1 : W.cell? ⟨g11, 6, none⟩ = some (.int .u64 (n : Int)) := (Kg11_5.out.below hW.all Kg11_5.out.lt).cell 6
              go_simp
              try with_reducible rfl
            try simp only [Act.put, List.setIfInBounds_toArray, List.set_cons_zero, List.set_cons_succ]
            refine Reg.take 42 (v := ?_) rfl (by kernel_rfl) (fun _ _ _ h => h) rfl ?_ ?_
            rotate_left
            · intro W hW
              go_simp
              try with_reducible rfl
            try simp only [Act.put, List.setIfInBounds_toArray, List.set_cons_zero, List.set_cons_succ]
            refine Reg.take 43 (v := ?_) rfl (by kernel_rfl) (fun _ _ _ h => h) rfl ?_ ?_
            rotate_left
            · intro W hW
              have l1 : (loadRow 24 (.pointer (some ⟨g11, 0, none⟩))).run Try.prog W = .ok (.agg #[.string num, .string game, .string slip, .int .i64 first, .int .i64 price, .int .i64 date, .int .u64 (n : Int)]) W := load_rc (Kg11_5.out.below hW.all Kg11_5.out.lt) rfl
              go_simp
              try with_reducible rfl
            try simp only [Act.put, List.setIfInBounds_toArray, List.set_cons_zero, List.set_cons_succ]
            refine Reg.do_ 44 rfl (by kernel_rfl) rfl (fun K hK => ?_)
            go_simp
            refine (CS.out _).mono ?_
            rintro e v5 ⟨rfl, b5⟩
            have KB_8 := Lib.hid (KB_7.out.below b5 KB_7.out.lt)
            have BE_8 := Lib.hid (BE_7.out.trans (b5.mono BE_7.out.size))
            have Kg11_6 := Lib.hid (Kg11_5.out.below b5 Kg11_5.out.lt)
            clear KB_7 BE_7 Kg11_5
            refine hK.out _ _ b5 ?_
            clear hK K b5
            try simp only [Act.put, List.setIfInBounds_toArray, List.set_cons_zero, List.set_cons_succ]
            refine Reg.take 45 (v := ?_) rfl (by kernel_rfl) (fun _ _ _ h => h) rfl ?_ ?_
            rotate_left
            · intro W hW
              go_simp
              try with_reducible rfl
            try simp only [Act.put, List.setIfInBounds_toArray, List.set_cons_zero, List.set_cons_succ]
            refine Reg.take 46 (v := ?_) rfl (by kernel_rfl) (fun _ _ _ h => h) rfl ?_ ?_
            rotate_left
            · intro W hW
              go_simp
              try with_reducible rfl
            try simp only [Act.put, List.setIfInBounds_toArray, List.set_cons_zero, List.set_cons_succ]
            refine Reg.take 47 (v := ?_) rfl (by kernel_rfl) (fun _ _ _ h => h) rfl ?_ ?_
            rotate_left
            · intro W hW
              go_simp
              try with_reducible rfl
            try simp only [Act.put, List.setIfInBounds_toArray, List.set_cons_zero, List.set_cons_succ]
            refine Reg.do_ 48 rfl (by kernel_rfl) rfl (fun K hK => ?_)
            go_simp
            refine (awake19 _).mono ?_
            rintro e v6 ⟨rfl, b6⟩
            have KB_9 := Lib.hid (KB_8.out.below b6 KB_8.out.lt)
            have BE_9 := Lib.hid (BE_8.out.trans (b6.mono BE_8.out.size))
            have Kg11_7 := Lib.hid (Kg11_6.out.below b6 Kg11_6.out.lt)
            clear KB_8 BE_8 Kg11_6
            refine hK.out _ _ b6 ?_
            clear hK K b6
            try simp only [Act.put, List.setIfInBounds_toArray, List.set_cons_zero, List.set_cons_succ]
            refine Reg.take 49 (v := ?_) rfl (by kernel_rfl) (fun _ _ _ h => h) rfl ?_ ?_
            rotate_left
            · intro W hW
              go_simp
              try with_reducible rfl
            try simp only [Act.put, List.setIfInBounds_toArray, List.set_cons_zero, List.set_cons_succ]
            refine Reg.take 50 (v := ?_) rfl (by kernel_rfl) (fun _ _ _ h => h) rfl ?_ ?_
            rotate_left
            · intro W hW
              go_simp
              try with_reducible rfl
            try simp only [Act.put, List.setIfInBounds_toArray, List.set_cons_zero, List.set_cons_succ]
            refine Reg.done (by kernel_rfl) ?_
            go_wp2_with fail
            go_ret
            exact ⟨rfl, BE_9.out⟩
          · have tk : (key == other) = true := by simp [hko]
            have tt : (turn == 0) = false := by simp [ht0]
            have C2 : Hid (∀ W, Calls Try.prog 14 #[.int .u64 other, .agg #[.string num, .string game, .string slip, .int .i64 first, .int .i64 price, .int .i64 date, .int .u64 (n : Int)]] W (Ret (.int .i64 0) W)) := fun W => by
              have := verify_any other (issued key num game slip first price date) W hoth (issued_lim hl) (issued_ok ho)
              rw [ver_issued hk hoth, if_pos hko, HI.out] at this
              exact this
            have C3 : Hid (∀ W, Calls Try.prog 14 #[.int .u64 key, .agg #[.string num, .string game, .string slip, .int .i64 first, .int .i64 price, .int .i64 date, .int .u64 (bits .xor .u64 (n : Int) turn)]] W (Ret (.int .i64 15) W)) := fun W => by
              have h3 := ver_turn (key := key) htu num game slip first price date
              have := verify_any key ((issued key num game slip first price date).withSign (bits .xor .u64 ((issued key num game slip first price date).sign : Int) turn).toNat) W hk (withSign_lim (issued_lim hl)) (withSign_ok (issued_ok ho) (by
                have := xor_is_u64 ((issued key num game slip first price date).sign : Int) turn
                have h1 := this.1
                have h2 := this.2
                omega))
              rw [h3, if_neg ht0, HSL.out] at this
              exact this
            clear hk hoth htu ho hl hko ht0
            obtain ⟨W0, hW0⟩ : ∃ W0, W0 = w.alloc (.cells #[.string num, .string game, y2, y3, y4, y5, y6, .int .i64 first, .int .i64 price, .int .i64 date, y10, y11, y12, y13] 35) := ⟨_, rfl⟩
            have KB_0 : Hid (Blk W0 w.heap.size 35 #[.string num, .string game, y2, y3, y4, y5, y6, .int .i64 first, .int .i64 price, .int .i64 date, y10, y11, y12, y13]) := by rw [hW0]; exact Blk.new _ _ _
            have BE_0 : Hid (Below w.heap.size w W0) := by rw [hW0]; exact (Below.refl _ w).alloc (Nat.le_refl _) _
            have HW := Lib.hid hW0
            clear hW0
            go_enter Try.func8, Try.ntmps8
            go_wp2_with fail
            rw [← HW.out]
            clear HW
            refine (C0.out _).mono ?_
            rintro e v1 ⟨rfl, b1⟩
            have KB_1 := Lib.hid (KB_0.out.below b1 KB_0.out.lt)
            have BE_1 := Lib.hid (BE_0.out.trans (b1.mono BE_0.out.size))
            clear KB_0 BE_0
            clear b1
            obtain ⟨g11, hg11⟩ : ∃ g11, g11 = v1.heap.size := ⟨_, rfl⟩
            have kz : Blk (v1.alloc (.cells #[.string ⟨#[]⟩, .string ⟨#[]⟩, .string ⟨#[]⟩, .int .i64 0, .int .i64 0, .int .i64 0, .int .u64 0] 24)) v1.heap.size 24 #[.string ⟨#[]⟩, .string ⟨#[]⟩, .string ⟨#[]⟩, .int .i64 0, .int .i64 0, .int .i64 0, .int .u64 0] := Blk.new _ _ _
            have st := store_rc (cs := #[.string num, .string game, .string slip, .int .i64 first, .int .i64 price, .int .i64 date, .int .u64 (n : Int)]) kz rfl rfl rfl
            obtain ⟨W1, hW1⟩ : ∃ W1, W1 = World.setRow (v1.alloc (.cells #[.string ⟨#[]⟩, .string ⟨#[]⟩, .string ⟨#[]⟩, .int .i64 0, .int .i64 0, .int .i64 0, .int .u64 0] 24)) v1.heap.size #[.string num, .string game, .string slip, .int .i64 first, .int .i64 price, .int .i64 date, .int .u64 (n : Int)] := ⟨_, rfl⟩
            have F : Below v1.heap.size v1 W1 := by rw [hW1]; exact ((Below.refl _ _).alloc (Nat.le_refl _) _).trans ((frm_setRow _ _ _).below (by simp) (fun i hi e => by omega))
            have KB_2 := Lib.hid (KB_1.out.below F KB_1.out.lt)
            have BE_2 := Lib.hid (BE_1.out.trans (F.mono BE_1.out.size))
            clear KB_1 BE_1
            have Kg11_0 : Hid (Blk W1 g11 24 #[.string num, .string game, .string slip, .int .i64 first, .int .i64 price, .int .i64 date, .int .u64 (n : Int)]) := by rw [hW1, hg11]; exact Blk_setRow kz _
            rw [← hW1] at st
            clear hW1 kz F
            obtain ⟨g12, hg12⟩ : ∃ g12, g12 = W1.heap.size := ⟨_, rfl⟩
            have l1 : (loadRow 24 (.pointer (some ⟨v1.heap.size, 0, none⟩))).run Try.prog W1 = .ok (.agg #[.string num, .string game, .string slip, .int .i64 first, .int .i64 price, .int .i64 date, .int .u64 (n : Int)]) W1 := by rw [← hg11]; exact load_rc Kg11_0.out rfl
            have kz2 : Blk (W1.alloc (.cells #[.string ⟨#[]⟩, .string ⟨#[]⟩, .string ⟨#[]⟩, .int .i64 0, .int .i64 0, .int .i64 0, .int .u64 0] 24)) W1.heap.size 24 #[.string ⟨#[]⟩, .string ⟨#[]⟩, .string ⟨#[]⟩, .int .i64 0, .int .i64 0, .int .i64 0, .int .u64 0] := Blk.new _ _ _
            have st2 := store_rc (cs := #[.string num, .string game, .string slip, .int .i64 first, .int .i64 price, .int .i64 date, .int .u64 (n : Int)]) kz2 rfl rfl rfl
            obtain ⟨W2, hW2⟩ : ∃ W2, W2 = World.setRow (W1.alloc (.cells #[.string ⟨#[]⟩, .string ⟨#[]⟩, .string ⟨#[]⟩, .int .i64 0, .int .i64 0, .int .i64 0, .int .u64 0] 24)) W1.heap.size #[.string num, .string game, .string slip, .int .i64 first, .int .i64 price, .int .i64 date, .int .u64 (n : Int)] := ⟨_, rfl⟩
            have K12 : Blk W2 W1.heap.size 24 #[.string num, .string game, .string slip, .int .i64 first, .int .i64 price, .int .i64 date, .int .u64 (n : Int)] := by rw [hW2]; exact Blk_setRow kz2 _
            have F12 : Below W1.heap.size W1 W2 := by rw [hW2]; exact ((Below.refl _ _).alloc (Nat.le_refl _) _).trans ((frm_setRow _ _ _).below (by simp) (fun i hi e => by omega))
            rw [← hW2] at st2
            have q6 : W2.cell? ⟨v1.heap.size, 6, none⟩ = some (.int .u64 (n : Int)) := by rw [← hg11]; exact (Kg11_0.out.below F12 Kg11_0.out.lt).cell 6
            have q12 : W2.cell? ⟨W1.heap.size, 6, none⟩ = some (.int .u64 (n : Int)) := K12.cell 6
            have z12 : W2.frozen? ⟨W1.heap.size, 6, none⟩ = false := K12.frozen 6
            have F : Below W1.heap.size W1 (W2.setCell ⟨g12, 6, none⟩ (.int .u64 (bits .xor .u64 (n : Int) turn))) := F12.setCell (p := ⟨g12, 6, none⟩) (by show W1.heap.size ≤ g12; omega) _
            have la : (loadRow 24 (.pointer (some ⟨v1.heap.size, 0, none⟩))).run Try.prog (W2.setCell ⟨W1.heap.size, 6, none⟩ (.int .u64 (bits .xor .u64 (n : Int) turn))) = .ok (.agg #[.string num, .string game, .string slip, .int .i64 first, .int .i64 price, .int .i64 date, .int .u64 (n : Int)]) (W2.setCell ⟨W1.heap.size, 6, none⟩ (.int .u64 (bits .xor .u64 (n : Int) turn))) := by rw [← hg11, ← hg12]; exact load_rc (Kg11_0.out.below F Kg11_0.out.lt) rfl
            have KB_3 := Lib.hid (KB_2.out.below F KB_2.out.lt)
            have BE_3 := Lib.hid (BE_2.out.trans (F.mono BE_2.out.size))
            have Kg11_1 := Lib.hid (Kg11_0.out.below F Kg11_0.out.lt)
            clear KB_2 BE_2 Kg11_0
            have Kg12_0 : Hid (Blk (W2.setCell ⟨g12, 6, none⟩ (.int .u64 (bits .xor .u64 (n : Int) turn))) g12 24 #[.string num, .string game, .string slip, .int .i64 first, .int .i64 price, .int .i64 date, .int .u64 (bits .xor .u64 (n : Int) turn)]) := by rw [hg12]; exact K12.put 6 _
            clear hW2 kz2 K12 F12 F
            go_wp2_with fail
            clear st l1 st2 q6 q12 z12 la
            rw [← hg11, ← hg12]
            clear hg11 hg12
            generalize W2.setCell ⟨g12, 6, none⟩ (.int .u64 (bits .xor .u64 (n : Int) turn)) = W3 at *
            refine (C1.out _).mono ?_
            rintro e v2 ⟨rfl, b2⟩
            have KB_4 := Lib.hid (KB_3.out.below b2 KB_3.out.lt)
            have BE_4 := Lib.hid (BE_3.out.trans (b2.mono BE_3.out.size))
            have Kg11_2 := Lib.hid (Kg11_1.out.below b2 Kg11_1.out.lt)
            have Kg12_1 := Lib.hid (Kg12_0.out.below b2 Kg12_0.out.lt)
            clear KB_3 BE_3 Kg11_1 Kg12_0
            clear b2
            have la : (loadRow 24 (.pointer (some ⟨g11, 0, none⟩))).run Try.prog v2 = .ok (.agg #[.string num, .string game, .string slip, .int .i64 first, .int .i64 price, .int .i64 date, .int .u64 (n : Int)]) v2 := load_rc Kg11_2.out rfl
            go_wp2_with fail
            clear la
            refine (C2.out _).mono ?_
            rintro e v3 ⟨rfl, b3⟩
            have KB_5 := Lib.hid (KB_4.out.below b3 KB_4.out.lt)
            have BE_5 := Lib.hid (BE_4.out.trans (b3.mono BE_4.out.size))
            have Kg11_3 := Lib.hid (Kg11_2.out.below b3 Kg11_2.out.lt)
            have Kg12_2 := Lib.hid (Kg12_1.out.below b3 Kg12_1.out.lt)
            clear KB_4 BE_4 Kg11_2 Kg12_1
            clear b3
            have la : (loadRow 24 (.pointer (some ⟨g12, 0, none⟩))).run Try.prog v3 = .ok (.agg #[.string num, .string game, .string slip, .int .i64 first, .int .i64 price, .int .i64 date, .int .u64 (bits .xor .u64 (n : Int) turn)]) v3 := load_rc Kg12_2.out rfl
            go_wp2_with fail
            clear la
            refine (C3.out _).mono ?_
            rintro e v4 ⟨rfl, b4⟩
            have KB_6 := Lib.hid (KB_5.out.below b4 KB_5.out.lt)
            have BE_6 := Lib.hid (BE_5.out.trans (b4.mono BE_5.out.size))
            have Kg11_4 := Lib.hid (Kg11_3.out.below b4 Kg11_3.out.lt)
            have Kg12_3 := Lib.hid (Kg12_2.out.below b4 Kg12_2.out.lt)
            clear KB_5 BE_5 Kg11_3 Kg12_2
            clear b4
            go_wp2_with fail
            have F : Below v4.heap.size v4 v4.drew := (Below.refl _ _).drew
            have KB_7 := Lib.hid (KB_6.out.below F KB_6.out.lt)
            have BE_7 := Lib.hid (BE_6.out.trans (F.mono BE_6.out.size))
            have Kg11_5 := Lib.hid (Kg11_4.out.below F Kg11_4.out.lt)
            clear KB_6 BE_6 Kg11_4
            clear F
            refine Reg.start (by kernel_rfl) ?_
            refine Reg.take 0 (v := ?_) rfl (by kernel_rfl) (fun _ _ _ h => h) rfl ?_ ?_
            rotate_left
            · intro W hW
              go_simp
              try with_reducible rfl
            try simp only [Act.put, List.setIfInBounds_toArray, List.set_cons_zero, List.set_cons_succ]
            refine Reg.take 1 (v := ?_) rfl (by kernel_rfl) (fun _ _ _ h => h) rfl ?_ ?_
            rotate_left
            · intro W hW
              have l1 : W.cell? ⟨g11, 0, none⟩ = some (.string num) := (Kg11_5.out.below hW.all Kg11_5.out.lt).cell 0
              go_simp
              try with_reducible rfl
            try simp only [Act.put, List.setIfInBounds_toArray, List.set_cons_zero, List.set_cons_succ]
            refine Reg.take 2 (v := ?_) rfl (by kernel_rfl) (fun _ _ _ h => h) rfl ?_ ?_
            rotate_left
            · intro W hW
              go_simp
              try with_reducible rfl
            try simp only [Act.put, List.setIfInBounds_toArray, List.set_cons_zero, List.set_cons_succ]
            refine Reg.take 3 (v := ?_) rfl (by kernel_rfl) (fun _ _ _ h => h) rfl ?_ ?_
            rotate_left
            · intro W hW
              have l1 : W.cell? ⟨w.heap.size, 0, none⟩ = some (.string num) := (KB_7.out.below hW.all KB_7.out.lt).cell 0
              go_simp
              try with_reducible rfl
            try simp only [Act.put, List.setIfInBounds_toArray, List.set_cons_zero, List.set_cons_succ]
            refine Reg.take 4 (v := ?_) rfl (by kernel_rfl) (fun _ _ _ h => h) rfl ?_ ?_
            rotate_left
            · intro W hW
              go_simp
              try with_reducible rfl
            try simp only [Act.put, List.setIfInBounds_toArray, List.set_cons_zero, List.set_cons_succ]
            refine Reg.take 5 (v := ?_) rfl (by kernel_rfl) (fun _ _ _ h => h) rfl ?_ ?_
            rotate_left
            · intro W hW
              go_simp
              try with_reducible rfl
            try simp only [Act.put, List.setIfInBounds_toArray, List.set_cons_zero, List.set_cons_succ]
            refine Reg.take 6 (v := ?_) rfl (by kernel_rfl) (fun _ _ _ h => h) rfl ?_ ?_
            rotate_left
            · intro W hW
              go_simp
              try with_reducible rfl
            try simp only [Act.put, List.setIfInBounds_toArray, List.set_cons_zero, List.set_cons_succ]
            refine Reg.take 7 (v := ?_) rfl (by kernel_rfl) (fun _ _ _ h => h) rfl ?_ ?_
            rotate_left
            · intro W hW
              have l1 : W.cell? ⟨g11, 1, none⟩ = some (.string game) := (Kg11_5.out.below hW.all Kg11_5.out.lt).cell 1
              go_simp
              try with_reducible rfl
            try simp only [Act.put, List.setIfInBounds_toArray, List.set_cons_zero, List.set_cons_succ]
            refine Reg.take 8 (v := ?_) rfl (by kernel_rfl) (fun _ _ _ h => h) rfl ?_ ?_
            rotate_left
            · intro W hW
              go_simp
              try with_reducible rfl
            try simp only [Act.put, List.setIfInBounds_toArray, List.set_cons_zero, List.set_cons_succ]
            refine Reg.take 9 (v := ?_) rfl (by kernel_rfl) (fun _ _ _ h => h) rfl ?_ ?_
            rotate_left
            · intro W hW
              have l1 : W.cell? ⟨w.heap.size, 1, none⟩ = some (.string game) := (KB_7.out.below hW.all KB_7.out.lt).cell 1
              go_simp
              try with_reducible rfl
            try simp only [Act.put, List.setIfInBounds_toArray, List.set_cons_zero, List.set_cons_succ]
            refine Reg.take 10 (v := ?_) rfl (by kernel_rfl) (fun _ _ _ h => h) rfl ?_ ?_
            rotate_left
            · intro W hW
              go_simp
              try with_reducible rfl
            try simp only [Act.put, List.setIfInBounds_toArray, List.set_cons_zero, List.set_cons_succ]
            refine Reg.take 11 (v := ?_) rfl (by kernel_rfl) (fun _ _ _ h => h) rfl ?_ ?_
            rotate_left
            · intro W hW
              go_simp
              try with_reducible rfl
            try simp only [Act.put, List.setIfInBounds_toArray, List.set_cons_zero, List.set_cons_succ]
            refine Reg.take 12 (v := ?_) rfl (by kernel_rfl) (fun _ _ _ h => h) rfl ?_ ?_
            rotate_left
            · intro W hW
              go_simp
              try with_reducible rfl
            try simp only [Act.put, List.setIfInBounds_toArray, List.set_cons_zero, List.set_cons_succ]
            refine Reg.take 13 (v := ?_) rfl (by kernel_rfl) (fun _ _ _ h => h) rfl ?_ ?_
            rotate_left
            · intro W hW
              go_simp
              try with_reducible rfl
            try simp only [Act.put, List.setIfInBounds_toArray, List.set_cons_zero, List.set_cons_succ]
            refine Reg.take 14 (v := ?_) rfl (by kernel_rfl) (fun _ _ _ h => h) rfl ?_ ?_
            rotate_left
            · intro W hW
              have l1 : W.cell? ⟨g11, 2, none⟩ = some (.string slip) := (Kg11_5.out.below hW.all Kg11_5.out.lt).cell 2
              go_simp
              try with_reducible rfl
            try simp only [Act.put, List.setIfInBounds_toArray, List.set_cons_zero, List.set_cons_succ]
            refine Reg.take 15 (v := ?_) rfl (by kernel_rfl) (fun _ _ _ h => h) rfl ?_ ?_
            rotate_left
            · intro W hW
              go_simp
              try with_reducible rfl
            try simp only [Act.put, List.setIfInBounds_toArray, List.set_cons_zero, List.set_cons_succ]
            refine Reg.take 16 (v := ?_) rfl (by kernel_rfl) (fun _ _ _ h => h) rfl ?_ ?_
            rotate_left
            · intro W hW
              go_simp
              try with_reducible rfl
            try simp only [Act.put, List.setIfInBounds_toArray, List.set_cons_zero, List.set_cons_succ]
            refine Reg.take 17 (v := ?_) rfl (by kernel_rfl) (fun _ _ _ h => h) rfl ?_ ?_
            rotate_left
            · intro W hW
              go_simp
              try with_reducible rfl
            try simp only [Act.put, List.setIfInBounds_toArray, List.set_cons_zero, List.set_cons_succ]
            refine Reg.take 18 (v := ?_) rfl (by kernel_rfl) (fun _ _ _ h => h) rfl ?_ ?_
            rotate_left
            · intro W hW
              go_simp
              try with_reducible rfl
            try simp only [Act.put, List.setIfInBounds_toArray, List.set_cons_zero, List.set_cons_succ]
            refine Reg.take 19 (v := ?_) rfl (by kernel_rfl) (fun _ _ _ h => h) rfl ?_ ?_
            rotate_left
            · intro W hW
              go_simp
              try with_reducible rfl
            try simp only [Act.put, List.setIfInBounds_toArray, List.set_cons_zero, List.set_cons_succ]
            refine Reg.take 20 (v := ?_) rfl (by kernel_rfl) (fun _ _ _ h => h) rfl ?_ ?_
            rotate_left
            · intro W hW
              have l1 : W.cell? ⟨g11, 3, none⟩ = some (.int .i64 first) := (Kg11_5.out.below hW.all Kg11_5.out.lt).cell 3
              go_simp
              try with_reducible rfl
            try simp only [Act.put, List.setIfInBounds_toArray, List.set_cons_zero, List.set_cons_succ]
            refine Reg.take 21 (v := ?_) rfl (by kernel_rfl) (fun _ _ _ h => h) rfl ?_ ?_
            rotate_left
            · intro W hW
              go_simp
              try with_reducible rfl
            try simp only [Act.put, List.setIfInBounds_toArray, List.set_cons_zero, List.set_cons_succ]
            refine Reg.take 22 (v := ?_) rfl (by kernel_rfl) (fun _ _ _ h => h) rfl ?_ ?_
            rotate_left
            · intro W hW
              have l1 : W.cell? ⟨w.heap.size, 7, none⟩ = some (.int .i64 first) := (KB_7.out.below hW.all KB_7.out.lt).cell 7
              go_simp
              try with_reducible rfl
            try simp only [Act.put, List.setIfInBounds_toArray, List.set_cons_zero, List.set_cons_succ]
            refine Reg.take 23 (v := ?_) rfl (by kernel_rfl) (fun _ _ _ h => h) rfl ?_ ?_
            rotate_left
            · intro W hW
              go_simp
              try with_reducible rfl
            try simp only [Act.put, List.setIfInBounds_toArray, List.set_cons_zero, List.set_cons_succ]
            refine Reg.take 24 (v := ?_) rfl (by kernel_rfl) (fun _ _ _ h => h) rfl ?_ ?_
            rotate_left
            · intro W hW
              go_simp
              try with_reducible rfl
            try simp only [Act.put, List.setIfInBounds_toArray, List.set_cons_zero, List.set_cons_succ]
            refine Reg.take 25 (v := ?_) rfl (by kernel_rfl) (fun _ _ _ h => h) rfl ?_ ?_
            rotate_left
            · intro W hW
              go_simp
              try with_reducible rfl
            try simp only [Act.put, List.setIfInBounds_toArray, List.set_cons_zero, List.set_cons_succ]
            refine Reg.take 26 (v := ?_) rfl (by kernel_rfl) (fun _ _ _ h => h) rfl ?_ ?_
            rotate_left
            · intro W hW
              go_simp
              try with_reducible rfl
            try simp only [Act.put, List.setIfInBounds_toArray, List.set_cons_zero, List.set_cons_succ]
            refine Reg.take 27 (v := ?_) rfl (by kernel_rfl) (fun _ _ _ h => h) rfl ?_ ?_
            rotate_left
            · intro W hW
              have l1 : W.cell? ⟨g11, 4, none⟩ = some (.int .i64 price) := (Kg11_5.out.below hW.all Kg11_5.out.lt).cell 4
              go_simp
              try with_reducible rfl
            try simp only [Act.put, List.setIfInBounds_toArray, List.set_cons_zero, List.set_cons_succ]
            refine Reg.take 28 (v := ?_) rfl (by kernel_rfl) (fun _ _ _ h => h) rfl ?_ ?_
            rotate_left
            · intro W hW
              go_simp
              try with_reducible rfl
            try simp only [Act.put, List.setIfInBounds_toArray, List.set_cons_zero, List.set_cons_succ]
            refine Reg.take 29 (v := ?_) rfl (by kernel_rfl) (fun _ _ _ h => h) rfl ?_ ?_
            rotate_left
            · intro W hW
              have l1 : W.cell? ⟨w.heap.size, 8, none⟩ = some (.int .i64 price) := (KB_7.out.below hW.all KB_7.out.lt).cell 8
              go_simp
              try with_reducible rfl
            try simp only [Act.put, List.setIfInBounds_toArray, List.set_cons_zero, List.set_cons_succ]
            refine Reg.take 30 (v := ?_) rfl (by kernel_rfl) (fun _ _ _ h => h) rfl ?_ ?_
            rotate_left
            · intro W hW
              go_simp
              try with_reducible rfl
            try simp only [Act.put, List.setIfInBounds_toArray, List.set_cons_zero, List.set_cons_succ]
            refine Reg.take 31 (v := ?_) rfl (by kernel_rfl) (fun _ _ _ h => h) rfl ?_ ?_
            rotate_left
            · intro W hW
              go_simp
              try with_reducible rfl
            try simp only [Act.put, List.setIfInBounds_toArray, List.set_cons_zero, List.set_cons_succ]
            refine Reg.take 32 (v := ?_) rfl (by kernel_rfl) (fun _ _ _ h => h) rfl ?_ ?_
            rotate_left
            · intro W hW
              go_simp
              try with_reducible rfl
            try simp only [Act.put, List.setIfInBounds_toArray, List.set_cons_zero, List.set_cons_succ]
            refine Reg.take 33 (v := ?_) rfl (by kernel_rfl) (fun _ _ _ h => h) rfl ?_ ?_
            rotate_left
            · intro W hW
              go_simp
              try with_reducible rfl
            try simp only [Act.put, List.setIfInBounds_toArray, List.set_cons_zero, List.set_cons_succ]
            refine Reg.take 34 (v := ?_) rfl (by kernel_rfl) (fun _ _ _ h => h) rfl ?_ ?_
            rotate_left
            · intro W hW
              have l1 : W.cell? ⟨g11, 5, none⟩ = some (.int .i64 date) := (Kg11_5.out.below hW.all Kg11_5.out.lt).cell 5
              go_simp
              try with_reducible rfl
            try simp only [Act.put, List.setIfInBounds_toArray, List.set_cons_zero, List.set_cons_succ]
            refine Reg.take 35 (v := ?_) rfl (by kernel_rfl) (fun _ _ _ h => h) rfl ?_ ?_
            rotate_left
            · intro W hW
              go_simp
              try with_reducible rfl
            try simp only [Act.put, List.setIfInBounds_toArray, List.set_cons_zero, List.set_cons_succ]
            refine Reg.take 36 (v := ?_) rfl (by kernel_rfl) (fun _ _ _ h => h) rfl ?_ ?_
            rotate_left
            · intro W hW
              have l1 : W.cell? ⟨w.heap.size, 9, none⟩ = some (.int .i64 date) := (KB_7.out.below hW.all KB_7.out.lt).cell 9
              go_simp
              try with_reducible rfl
            try simp only [Act.put, List.setIfInBounds_toArray, List.set_cons_zero, List.set_cons_succ]
            refine Reg.take 37 (v := ?_) rfl (by kernel_rfl) (fun _ _ _ h => h) rfl ?_ ?_
            rotate_left
            · intro W hW
              go_simp
              try with_reducible rfl
            try simp only [Act.put, List.setIfInBounds_toArray, List.set_cons_zero, List.set_cons_succ]
            refine Reg.take 38 (v := ?_) rfl (by kernel_rfl) (fun _ _ _ h => h) rfl ?_ ?_
            rotate_left
            · intro W hW
              go_simp
              try with_reducible rfl
            try simp only [Act.put, List.setIfInBounds_toArray, List.set_cons_zero, List.set_cons_succ]
            refine Reg.take 39 (v := ?_) rfl (by kernel_rfl) (fun _ _ _ h => h) rfl ?_ ?_
            rotate_left
            · intro W hW
              go_simp
              try with_reducible rfl
            try simp only [Act.put, List.setIfInBounds_toArray, List.set_cons_zero, List.set_cons_succ]
            refine Reg.take 40 (v := ?_) rfl (by kernel_rfl) (fun _ _ _ h => h) rfl ?_ ?_
            rotate_left
            · intro W hW
              go_simp
              try with_reducible rfl
            try simp only [Act.put, List.setIfInBounds_toArray, List.set_cons_zero, List.set_cons_succ]
            refine Reg.take 41 (v := ?_) rfl (by kernel_rfl) (fun _ _ _ h => h) rfl ?_ ?_
            rotate_left
            · intro W hW
              have l1 : W.cell? ⟨g11, 6, none⟩ = some (.int .u64 (n : Int)) := (Kg11_5.out.below hW.all Kg11_5.out.lt).cell 6
              go_simp
              try with_reducible rfl
            try simp only [Act.put, List.setIfInBounds_toArray, List.set_cons_zero, List.set_cons_succ]
            refine Reg.take 42 (v := ?_) rfl (by kernel_rfl) (fun _ _ _ h => h) rfl ?_ ?_
            rotate_left
            · intro W hW
              go_simp
              try with_reducible rfl
            try simp only [Act.put, List.setIfInBounds_toArray, List.set_cons_zero, List.set_cons_succ]
            refine Reg.take 43 (v := ?_) rfl (by kernel_rfl) (fun _ _ _ h => h) rfl ?_ ?_
            rotate_left
            · intro W hW
              have l1 : (loadRow 24 (.pointer (some ⟨g11, 0, none⟩))).run Try.prog W = .ok (.agg #[.string num, .string game, .string slip, .int .i64 first, .int .i64 price, .int .i64 date, .int .u64 (n : Int)]) W := load_rc (Kg11_5.out.below hW.all Kg11_5.out.lt) rfl
              go_simp
              try with_reducible rfl
            try simp only [Act.put, List.setIfInBounds_toArray, List.set_cons_zero, List.set_cons_succ]
            refine Reg.do_ 44 rfl (by kernel_rfl) rfl (fun K hK => ?_)
            go_simp
            refine (CS.out _).mono ?_
            rintro e v5 ⟨rfl, b5⟩
            have KB_8 := Lib.hid (KB_7.out.below b5 KB_7.out.lt)
            have BE_8 := Lib.hid (BE_7.out.trans (b5.mono BE_7.out.size))
            have Kg11_6 := Lib.hid (Kg11_5.out.below b5 Kg11_5.out.lt)
            clear KB_7 BE_7 Kg11_5
            refine hK.out _ _ b5 ?_
            clear hK K b5
            try simp only [Act.put, List.setIfInBounds_toArray, List.set_cons_zero, List.set_cons_succ]
            refine Reg.take 45 (v := ?_) rfl (by kernel_rfl) (fun _ _ _ h => h) rfl ?_ ?_
            rotate_left
            · intro W hW
              go_simp
              try with_reducible rfl
            try simp only [Act.put, List.setIfInBounds_toArray, List.set_cons_zero, List.set_cons_succ]
            refine Reg.take 46 (v := ?_) rfl (by kernel_rfl) (fun _ _ _ h => h) rfl ?_ ?_
            rotate_left
            · intro W hW
              go_simp
              try with_reducible rfl
            try simp only [Act.put, List.setIfInBounds_toArray, List.set_cons_zero, List.set_cons_succ]
            refine Reg.take 47 (v := ?_) rfl (by kernel_rfl) (fun _ _ _ h => h) rfl ?_ ?_
            rotate_left
            · intro W hW
              go_simp
              try with_reducible rfl
            try simp only [Act.put, List.setIfInBounds_toArray, List.set_cons_zero, List.set_cons_succ]
            refine Reg.do_ 48 rfl (by kernel_rfl) rfl (fun K hK => ?_)
            go_simp
            refine (awake19 _).mono ?_
            rintro e v6 ⟨rfl, b6⟩
            have KB_9 := Lib.hid (KB_8.out.below b6 KB_8.out.lt)
            have BE_9 := Lib.hid (BE_8.out.trans (b6.mono BE_8.out.size))
            have Kg11_7 := Lib.hid (Kg11_6.out.below b6 Kg11_6.out.lt)
            clear KB_8 BE_8 Kg11_6
            refine hK.out _ _ b6 ?_
            clear hK K b6
            try simp only [Act.put, List.setIfInBounds_toArray, List.set_cons_zero, List.set_cons_succ]
            refine Reg.take 49 (v := ?_) rfl (by kernel_rfl) (fun _ _ _ h => h) rfl ?_ ?_
            rotate_left
            · intro W hW
              go_simp
              try with_reducible rfl
            try simp only [Act.put, List.setIfInBounds_toArray, List.set_cons_zero, List.set_cons_succ]
            refine Reg.take 50 (v := ?_) rfl (by kernel_rfl) (fun _ _ _ h => h) rfl ?_ ?_
            rotate_left
            · intro W hW
              go_simp
              try with_reducible rfl
            try simp only [Act.put, List.setIfInBounds_toArray, List.set_cons_zero, List.set_cons_succ]
            refine Reg.done (by kernel_rfl) ?_
            go_wp2_with fail
            go_ret
            exact ⟨rfl, BE_9.out⟩
        · by_cases ht0 : turn = 0
          · have tk : (key == other) = false := by simp [hko]
            have tt : (turn == 0) = true := by simp [ht0]
            have C2 : Hid (∀ W, Calls Try.prog 14 #[.int .u64 other, .agg #[.string num, .string game, .string slip, .int .i64 first, .int .i64 price, .int .i64 date, .int .u64 (n : Int)]] W (Ret (.int .i64 15) W)) := fun W => by
              have := verify_any other (issued key num game slip first price date) W hoth (issued_lim hl) (issued_ok ho)
              rw [ver_issued hk hoth, if_neg hko, HI.out] at this
              exact this
            have C3 : Hid (∀ W, Calls Try.prog 14 #[.int .u64 key, .agg #[.string num, .string game, .string slip, .int .i64 first, .int .i64 price, .int .i64 date, .int .u64 (bits .xor .u64 (n : Int) turn)]] W (Ret (.int .i64 0) W)) := fun W => by
              have h3 := ver_turn (key := key) htu num game slip first price date
              have := verify_any key ((issued key num game slip first price date).withSign (bits .xor .u64 ((issued key num game slip first price date).sign : Int) turn).toNat) W hk (withSign_lim (issued_lim hl)) (withSign_ok (issued_ok ho) (by
                have := xor_is_u64 ((issued key num game slip first price date).sign : Int) turn
                have h1 := this.1
                have h2 := this.2
                omega))
              rw [h3, if_pos ht0, HSL.out] at this
              exact this
            clear hk hoth htu ho hl hko ht0
            obtain ⟨W0, hW0⟩ : ∃ W0, W0 = w.alloc (.cells #[.string num, .string game, y2, y3, y4, y5, y6, .int .i64 first, .int .i64 price, .int .i64 date, y10, y11, y12, y13] 35) := ⟨_, rfl⟩
            have KB_0 : Hid (Blk W0 w.heap.size 35 #[.string num, .string game, y2, y3, y4, y5, y6, .int .i64 first, .int .i64 price, .int .i64 date, y10, y11, y12, y13]) := by rw [hW0]; exact Blk.new _ _ _
            have BE_0 : Hid (Below w.heap.size w W0) := by rw [hW0]; exact (Below.refl _ w).alloc (Nat.le_refl _) _
            have HW := Lib.hid hW0
            clear hW0
            go_enter Try.func8, Try.ntmps8
            go_wp2_with fail
            rw [← HW.out]
            clear HW
            refine (C0.out _).mono ?_
            rintro e v1 ⟨rfl, b1⟩
            have KB_1 := Lib.hid (KB_0.out.below b1 KB_0.out.lt)
            have BE_1 := Lib.hid (BE_0.out.trans (b1.mono BE_0.out.size))
            clear KB_0 BE_0
            clear b1
            obtain ⟨g11, hg11⟩ : ∃ g11, g11 = v1.heap.size := ⟨_, rfl⟩
            have kz : Blk (v1.alloc (.cells #[.string ⟨#[]⟩, .string ⟨#[]⟩, .string ⟨#[]⟩, .int .i64 0, .int .i64 0, .int .i64 0, .int .u64 0] 24)) v1.heap.size 24 #[.string ⟨#[]⟩, .string ⟨#[]⟩, .string ⟨#[]⟩, .int .i64 0, .int .i64 0, .int .i64 0, .int .u64 0] := Blk.new _ _ _
            have st := store_rc (cs := #[.string num, .string game, .string slip, .int .i64 first, .int .i64 price, .int .i64 date, .int .u64 (n : Int)]) kz rfl rfl rfl
            obtain ⟨W1, hW1⟩ : ∃ W1, W1 = World.setRow (v1.alloc (.cells #[.string ⟨#[]⟩, .string ⟨#[]⟩, .string ⟨#[]⟩, .int .i64 0, .int .i64 0, .int .i64 0, .int .u64 0] 24)) v1.heap.size #[.string num, .string game, .string slip, .int .i64 first, .int .i64 price, .int .i64 date, .int .u64 (n : Int)] := ⟨_, rfl⟩
            have F : Below v1.heap.size v1 W1 := by rw [hW1]; exact ((Below.refl _ _).alloc (Nat.le_refl _) _).trans ((frm_setRow _ _ _).below (by simp) (fun i hi e => by omega))
            have KB_2 := Lib.hid (KB_1.out.below F KB_1.out.lt)
            have BE_2 := Lib.hid (BE_1.out.trans (F.mono BE_1.out.size))
            clear KB_1 BE_1
            have Kg11_0 : Hid (Blk W1 g11 24 #[.string num, .string game, .string slip, .int .i64 first, .int .i64 price, .int .i64 date, .int .u64 (n : Int)]) := by rw [hW1, hg11]; exact Blk_setRow kz _
            rw [← hW1] at st
            clear hW1 kz F
            obtain ⟨g12, hg12⟩ : ∃ g12, g12 = W1.heap.size := ⟨_, rfl⟩
            have l1 : (loadRow 24 (.pointer (some ⟨v1.heap.size, 0, none⟩))).run Try.prog W1 = .ok (.agg #[.string num, .string game, .string slip, .int .i64 first, .int .i64 price, .int .i64 date, .int .u64 (n : Int)]) W1 := by rw [← hg11]; exact load_rc Kg11_0.out rfl
            have kz2 : Blk (W1.alloc (.cells #[.string ⟨#[]⟩, .string ⟨#[]⟩, .string ⟨#[]⟩, .int .i64 0, .int .i64 0, .int .i64 0, .int .u64 0] 24)) W1.heap.size 24 #[.string ⟨#[]⟩, .string ⟨#[]⟩, .string ⟨#[]⟩, .int .i64 0, .int .i64 0, .int .i64 0, .int .u64 0] := Blk.new _ _ _
            have st2 := store_rc (cs := #[.string num, .string game, .string slip, .int .i64 first, .int .i64 price, .int .i64 date, .int .u64 (n : Int)]) kz2 rfl rfl rfl
            obtain ⟨W2, hW2⟩ : ∃ W2, W2 = World.setRow (W1.alloc (.cells #[.string ⟨#[]⟩, .string ⟨#[]⟩, .string ⟨#[]⟩, .int .i64 0, .int .i64 0, .int .i64 0, .int .u64 0] 24)) W1.heap.size #[.string num, .string game, .string slip, .int .i64 first, .int .i64 price, .int .i64 date, .int .u64 (n : Int)] := ⟨_, rfl⟩
            have K12 : Blk W2 W1.heap.size 24 #[.string num, .string game, .string slip, .int .i64 first, .int .i64 price, .int .i64 date, .int .u64 (n : Int)] := by rw [hW2]; exact Blk_setRow kz2 _
            have F12 : Below W1.heap.size W1 W2 := by rw [hW2]; exact ((Below.refl _ _).alloc (Nat.le_refl _) _).trans ((frm_setRow _ _ _).below (by simp) (fun i hi e => by omega))
            rw [← hW2] at st2
            have q6 : W2.cell? ⟨v1.heap.size, 6, none⟩ = some (.int .u64 (n : Int)) := by rw [← hg11]; exact (Kg11_0.out.below F12 Kg11_0.out.lt).cell 6
            have q12 : W2.cell? ⟨W1.heap.size, 6, none⟩ = some (.int .u64 (n : Int)) := K12.cell 6
            have z12 : W2.frozen? ⟨W1.heap.size, 6, none⟩ = false := K12.frozen 6
            have F : Below W1.heap.size W1 (W2.setCell ⟨g12, 6, none⟩ (.int .u64 (bits .xor .u64 (n : Int) turn))) := F12.setCell (p := ⟨g12, 6, none⟩) (by show W1.heap.size ≤ g12; omega) _
            have la : (loadRow 24 (.pointer (some ⟨v1.heap.size, 0, none⟩))).run Try.prog (W2.setCell ⟨W1.heap.size, 6, none⟩ (.int .u64 (bits .xor .u64 (n : Int) turn))) = .ok (.agg #[.string num, .string game, .string slip, .int .i64 first, .int .i64 price, .int .i64 date, .int .u64 (n : Int)]) (W2.setCell ⟨W1.heap.size, 6, none⟩ (.int .u64 (bits .xor .u64 (n : Int) turn))) := by rw [← hg11, ← hg12]; exact load_rc (Kg11_0.out.below F Kg11_0.out.lt) rfl
            have KB_3 := Lib.hid (KB_2.out.below F KB_2.out.lt)
            have BE_3 := Lib.hid (BE_2.out.trans (F.mono BE_2.out.size))
            have Kg11_1 := Lib.hid (Kg11_0.out.below F Kg11_0.out.lt)
            clear KB_2 BE_2 Kg11_0
            have Kg12_0 : Hid (Blk (W2.setCell ⟨g12, 6, none⟩ (.int .u64 (bits .xor .u64 (n : Int) turn))) g12 24 #[.string num, .string game, .string slip, .int .i64 first, .int .i64 price, .int .i64 date, .int .u64 (bits .xor .u64 (n : Int) turn)]) := by rw [hg12]; exact K12.put 6 _
            clear hW2 kz2 K12 F12 F
            go_wp2_with fail
            clear st l1 st2 q6 q12 z12 la
            rw [← hg11, ← hg12]
            clear hg11 hg12
            generalize W2.setCell ⟨g12, 6, none⟩ (.int .u64 (bits .xor .u64 (n : Int) turn)) = W3 at *
            refine (C1.out _).mono ?_
            rintro e v2 ⟨rfl, b2⟩
            have KB_4 := Lib.hid (KB_3.out.below b2 KB_3.out.lt)
            have BE_4 := Lib.hid (BE_3.out.trans (b2.mono BE_3.out.size))
            have Kg11_2 := Lib.hid (Kg11_1.out.below b2 Kg11_1.out.lt)
            have Kg12_1 := Lib.hid (Kg12_0.out.below b2 Kg12_0.out.lt)
            clear KB_3 BE_3 Kg11_1 Kg12_0
            clear b2
            have la : (loadRow 24 (.pointer (some ⟨g11, 0, none⟩))).run Try.prog v2 = .ok (.agg #[.string num, .string game, .string slip, .int .i64 first, .int .i64 price, .int .i64 date, .int .u64 (n : Int)]) v2 := load_rc Kg11_2.out rfl
            go_wp2_with fail
            clear la
            refine (C2.out _).mono ?_
            rintro e v3 ⟨rfl, b3⟩
            have KB_5 := Lib.hid (KB_4.out.below b3 KB_4.out.lt)
            have BE_5 := Lib.hid (BE_4.out.trans (b3.mono BE_4.out.size))
            have Kg11_3 := Lib.hid (Kg11_2.out.below b3 Kg11_2.out.lt)
            have Kg12_2 := Lib.hid (Kg12_1.out.below b3 Kg12_1.out.lt)
            clear KB_4 BE_4 Kg11_2 Kg12_1
            clear b3
            have la : (loadRow 24 (.pointer (some ⟨g12, 0, none⟩))).run Try.prog v3 = .ok (.agg #[.string num, .string game, .string slip, .int .i64 first, .int .i64 price, .int .i64 date, .int .u64 (bits .xor .u64 (n : Int) turn)]) v3 := load_rc Kg12_2.out rfl
            go_wp2_with fail
            clear la
            refine (C3.out _).mono ?_
            rintro e v4 ⟨rfl, b4⟩
            have KB_6 := Lib.hid (KB_5.out.below b4 KB_5.out.lt)
            have BE_6 := Lib.hid (BE_5.out.trans (b4.mono BE_5.out.size))
            have Kg11_4 := Lib.hid (Kg11_3.out.below b4 Kg11_3.out.lt)
            have Kg12_3 := Lib.hid (Kg12_2.out.below b4 Kg12_2.out.lt)
            clear KB_5 BE_5 Kg11_3 Kg12_2
            clear b4
            go_wp2_with fail
            have F : Below v4.heap.size v4 v4.drew := (Below.refl _ _).drew
            have KB_7 := Lib.hid (KB_6.out.below F KB_6.out.lt)
            have BE_7 := Lib.hid (BE_6.out.trans (F.mono BE_6.out.size))
            have Kg11_5 := Lib.hid (Kg11_4.out.below F Kg11_4.out.lt)
            clear KB_6 BE_6 Kg11_4
            clear F
            refine Reg.start (by kernel_rfl) ?_
            refine Reg.take 0 (v := ?_) rfl (by kernel_rfl) (fun _ _ _ h => h) rfl ?_ ?_
            rotate_left
            · intro W hW
              go_simp
              try with_reducible rfl
            try simp only [Act.put, List.setIfInBounds_toArray, List.set_cons_zero, List.set_cons_succ]
            refine Reg.take 1 (v := ?_) rfl (by kernel_rfl) (fun _ _ _ h => h) rfl ?_ ?_
            rotate_left
            · intro W hW
              have l1 : W.cell? ⟨g11, 0, none⟩ = some (.string num) := (Kg11_5.out.below hW.all Kg11_5.out.lt).cell 0
              go_simp
              try with_reducible rfl
            try simp only [Act.put, List.setIfInBounds_toArray, List.set_cons_zero, List.set_cons_succ]
            refine Reg.take 2 (v := ?_) rfl (by kernel_rfl) (fun _ _ _ h => h) rfl ?_ ?_
            rotate_left
            · intro W hW
              go_simp
              try with_reducible rfl
            try simp only [Act.put, List.setIfInBounds_toArray, List.set_cons_zero, List.set_cons_succ]
            refine Reg.take 3 (v := ?_) rfl (by kernel_rfl) (fun _ _ _ h => h) rfl ?_ ?_
            rotate_left
            · intro W hW
              have l1 : W.cell? ⟨w.heap.size, 0, none⟩ = some (.string num) := (KB_7.out.below hW.all KB_7.out.lt).cell 0
              go_simp
              try with_reducible rfl
            try simp only [Act.put, List.setIfInBounds_toArray, List.set_cons_zero, List.set_cons_succ]
            refine Reg.take 4 (v := ?_) rfl (by kernel_rfl) (fun _ _ _ h => h) rfl ?_ ?_
            rotate_left
            · intro W hW
              go_simp
              try with_reducible rfl
            try simp only [Act.put, List.setIfInBounds_toArray, List.set_cons_zero, List.set_cons_succ]
            refine Reg.take 5 (v := ?_) rfl (by kernel_rfl) (fun _ _ _ h => h) rfl ?_ ?_
            rotate_left
            · intro W hW
              go_simp
              try with_reducible rfl
            try simp only [Act.put, List.setIfInBounds_toArray, List.set_cons_zero, List.set_cons_succ]
            refine Reg.take 6 (v := ?_) rfl (by kernel_rfl) (fun _ _ _ h => h) rfl ?_ ?_
            rotate_left
            · intro W hW
              go_simp
              try with_reducible rfl
            try simp only [Act.put, List.setIfInBounds_toArray, List.set_cons_zero, List.set_cons_succ]
            refine Reg.take 7 (v := ?_) rfl (by kernel_rfl) (fun _ _ _ h => h) rfl ?_ ?_
            rotate_left
            · intro W hW
              have l1 : W.cell? ⟨g11, 1, none⟩ = some (.string game) := (Kg11_5.out.below hW.all Kg11_5.out.lt).cell 1
              go_simp
              try with_reducible rfl
            try simp only [Act.put, List.setIfInBounds_toArray, List.set_cons_zero, List.set_cons_succ]
            refine Reg.take 8 (v := ?_) rfl (by kernel_rfl) (fun _ _ _ h => h) rfl ?_ ?_
            rotate_left
            · intro W hW
              go_simp
              try with_reducible rfl
            try simp only [Act.put, List.setIfInBounds_toArray, List.set_cons_zero, List.set_cons_succ]
            refine Reg.take 9 (v := ?_) rfl (by kernel_rfl) (fun _ _ _ h => h) rfl ?_ ?_
            rotate_left
            · intro W hW
              have l1 : W.cell? ⟨w.heap.size, 1, none⟩ = some (.string game) := (KB_7.out.below hW.all KB_7.out.lt).cell 1
              go_simp
              try with_reducible rfl
            try simp only [Act.put, List.setIfInBounds_toArray, List.set_cons_zero, List.set_cons_succ]
            refine Reg.take 10 (v := ?_) rfl (by kernel_rfl) (fun _ _ _ h => h) rfl ?_ ?_
            rotate_left
            · intro W hW
              go_simp
              try with_reducible rfl
            try simp only [Act.put, List.setIfInBounds_toArray, List.set_cons_zero, List.set_cons_succ]
            refine Reg.take 11 (v := ?_) rfl (by kernel_rfl) (fun _ _ _ h => h) rfl ?_ ?_
            rotate_left
            · intro W hW
              go_simp
              try with_reducible rfl
            try simp only [Act.put, List.setIfInBounds_toArray, List.set_cons_zero, List.set_cons_succ]
            refine Reg.take 12 (v := ?_) rfl (by kernel_rfl) (fun _ _ _ h => h) rfl ?_ ?_
            rotate_left
            · intro W hW
              go_simp
              try with_reducible rfl
            try simp only [Act.put, List.setIfInBounds_toArray, List.set_cons_zero, List.set_cons_succ]
            refine Reg.take 13 (v := ?_) rfl (by kernel_rfl) (fun _ _ _ h => h) rfl ?_ ?_
            rotate_left
            · intro W hW
              go_simp
              try with_reducible rfl
            try simp only [Act.put, List.setIfInBounds_toArray, List.set_cons_zero, List.set_cons_succ]
            refine Reg.take 14 (v := ?_) rfl (by kernel_rfl) (fun _ _ _ h => h) rfl ?_ ?_
            rotate_left
            · intro W hW
              have l1 : W.cell? ⟨g11, 2, none⟩ = some (.string slip) := (Kg11_5.out.below hW.all Kg11_5.out.lt).cell 2
              go_simp
              try with_reducible rfl
            try simp only [Act.put, List.setIfInBounds_toArray, List.set_cons_zero, List.set_cons_succ]
            refine Reg.take 15 (v := ?_) rfl (by kernel_rfl) (fun _ _ _ h => h) rfl ?_ ?_
            rotate_left
            · intro W hW
              go_simp
              try with_reducible rfl
            try simp only [Act.put, List.setIfInBounds_toArray, List.set_cons_zero, List.set_cons_succ]
            refine Reg.take 16 (v := ?_) rfl (by kernel_rfl) (fun _ _ _ h => h) rfl ?_ ?_
            rotate_left
            · intro W hW
              go_simp
              try with_reducible rfl
            try simp only [Act.put, List.setIfInBounds_toArray, List.set_cons_zero, List.set_cons_succ]
            refine Reg.take 17 (v := ?_) rfl (by kernel_rfl) (fun _ _ _ h => h) rfl ?_ ?_
            rotate_left
            · intro W hW
              go_simp
              try with_reducible rfl
            try simp only [Act.put, List.setIfInBounds_toArray, List.set_cons_zero, List.set_cons_succ]
            refine Reg.take 18 (v := ?_) rfl (by kernel_rfl) (fun _ _ _ h => h) rfl ?_ ?_
            rotate_left
            · intro W hW
              go_simp
              try with_reducible rfl
            try simp only [Act.put, List.setIfInBounds_toArray, List.set_cons_zero, List.set_cons_succ]
            refine Reg.take 19 (v := ?_) rfl (by kernel_rfl) (fun _ _ _ h => h) rfl ?_ ?_
            rotate_left
            · intro W hW
              go_simp
              try with_reducible rfl
            try simp only [Act.put, List.setIfInBounds_toArray, List.set_cons_zero, List.set_cons_succ]
            refine Reg.take 20 (v := ?_) rfl (by kernel_rfl) (fun _ _ _ h => h) rfl ?_ ?_
            rotate_left
            · intro W hW
              have l1 : W.cell? ⟨g11, 3, none⟩ = some (.int .i64 first) := (Kg11_5.out.below hW.all Kg11_5.out.lt).cell 3
              go_simp
              try with_reducible rfl
            try simp only [Act.put, List.setIfInBounds_toArray, List.set_cons_zero, List.set_cons_succ]
            refine Reg.take 21 (v := ?_) rfl (by kernel_rfl) (fun _ _ _ h => h) rfl ?_ ?_
            rotate_left
            · intro W hW
              go_simp
              try with_reducible rfl
            try simp only [Act.put, List.setIfInBounds_toArray, List.set_cons_zero, List.set_cons_succ]
            refine Reg.take 22 (v := ?_) rfl (by kernel_rfl) (fun _ _ _ h => h) rfl ?_ ?_
            rotate_left
            · intro W hW
              have l1 : W.cell? ⟨w.heap.size, 7, none⟩ = some (.int .i64 first) := (KB_7.out.below hW.all KB_7.out.lt).cell 7
              go_simp
              try with_reducible rfl
            try simp only [Act.put, List.setIfInBounds_toArray, List.set_cons_zero, List.set_cons_succ]
            refine Reg.take 23 (v := ?_) rfl (by kernel_rfl) (fun _ _ _ h => h) rfl ?_ ?_
            rotate_left
            · intro W hW
              go_simp
              try with_reducible rfl
            try simp only [Act.put, List.setIfInBounds_toArray, List.set_cons_zero, List.set_cons_succ]
            refine Reg.take 24 (v := ?_) rfl (by kernel_rfl) (fun _ _ _ h => h) rfl ?_ ?_
            rotate_left
            · intro W hW
              go_simp
              try with_reducible rfl
            try simp only [Act.put, List.setIfInBounds_toArray, List.set_cons_zero, List.set_cons_succ]
            refine Reg.take 25 (v := ?_) rfl (by kernel_rfl) (fun _ _ _ h => h) rfl ?_ ?_
            rotate_left
            · intro W hW
              go_simp
              try with_reducible rfl
            try simp only [Act.put, List.setIfInBounds_toArray, List.set_cons_zero, List.set_cons_succ]
            refine Reg.take 26 (v := ?_) rfl (by kernel_rfl) (fun _ _ _ h => h) rfl ?_ ?_
            rotate_left
            · intro W hW
              go_simp
              try with_reducible rfl
            try simp only [Act.put, List.setIfInBounds_toArray, List.set_cons_zero, List.set_cons_succ]
            refine Reg.take 27 (v := ?_) rfl (by kernel_rfl) (fun _ _ _ h => h) rfl ?_ ?_
            rotate_left
            · intro W hW
              have l1 : W.cell? ⟨g11, 4, none⟩ = some (.int .i64 price) := (Kg11_5.out.below hW.all Kg11_5.out.lt).cell 4
              go_simp
              try with_reducible rfl
            try simp only [Act.put, List.setIfInBounds_toArray, List.set_cons_zero, List.set_cons_succ]
            refine Reg.take 28 (v := ?_) rfl (by kernel_rfl) (fun _ _ _ h => h) rfl ?_ ?_
            rotate_left
            · intro W hW
              go_simp
              try with_reducible rfl
            try simp only [Act.put, List.setIfInBounds_toArray, List.set_cons_zero, List.set_cons_succ]
            refine Reg.take 29 (v := ?_) rfl (by kernel_rfl) (fun _ _ _ h => h) rfl ?_ ?_
            rotate_left
            · intro W hW
              have l1 : W.cell? ⟨w.heap.size, 8, none⟩ = some (.int .i64 price) := (KB_7.out.below hW.all KB_7.out.lt).cell 8
              go_simp
              try with_reducible rfl
            try simp only [Act.put, List.setIfInBounds_toArray, List.set_cons_zero, List.set_cons_succ]
            refine Reg.take 30 (v := ?_) rfl (by kernel_rfl) (fun _ _ _ h => h) rfl ?_ ?_
            rotate_left
            · intro W hW
              go_simp
              try with_reducible rfl
            try simp only [Act.put, List.setIfInBounds_toArray, List.set_cons_zero, List.set_cons_succ]
            refine Reg.take 31 (v := ?_) rfl (by kernel_rfl) (fun _ _ _ h => h) rfl ?_ ?_
            rotate_left
            · intro W hW
              go_simp
              try with_reducible rfl
            try simp only [Act.put, List.setIfInBounds_toArray, List.set_cons_zero, List.set_cons_succ]
            refine Reg.take 32 (v := ?_) rfl (by kernel_rfl) (fun _ _ _ h => h) rfl ?_ ?_
            rotate_left
            · intro W hW
              go_simp
              try with_reducible rfl
            try simp only [Act.put, List.setIfInBounds_toArray, List.set_cons_zero, List.set_cons_succ]
            refine Reg.take 33 (v := ?_) rfl (by kernel_rfl) (fun _ _ _ h => h) rfl ?_ ?_
            rotate_left
            · intro W hW
              go_simp
              try with_reducible rfl
            try simp only [Act.put, List.setIfInBounds_toArray, List.set_cons_zero, List.set_cons_succ]
            refine Reg.take 34 (v := ?_) rfl (by kernel_rfl) (fun _ _ _ h => h) rfl ?_ ?_
            rotate_left
            · intro W hW
              have l1 : W.cell? ⟨g11, 5, none⟩ = some (.int .i64 date) := (Kg11_5.out.below hW.all Kg11_5.out.lt).cell 5
              go_simp
              try with_reducible rfl
            try simp only [Act.put, List.setIfInBounds_toArray, List.set_cons_zero, List.set_cons_succ]
            refine Reg.take 35 (v := ?_) rfl (by kernel_rfl) (fun _ _ _ h => h) rfl ?_ ?_
            rotate_left
            · intro W hW
              go_simp
              try with_reducible rfl
            try simp only [Act.put, List.setIfInBounds_toArray, List.set_cons_zero, List.set_cons_succ]
            refine Reg.take 36 (v := ?_) rfl (by kernel_rfl) (fun _ _ _ h => h) rfl ?_ ?_
            rotate_left
            · intro W hW
              have l1 : W.cell? ⟨w.heap.size, 9, none⟩ = some (.int .i64 date) := (KB_7.out.below hW.all KB_7.out.lt).cell 9
              go_simp
              try with_reducible rfl
            try simp only [Act.put, List.setIfInBounds_toArray, List.set_cons_zero, List.set_cons_succ]
            refine Reg.take 37 (v := ?_) rfl (by kernel_rfl) (fun _ _ _ h => h) rfl ?_ ?_
            rotate_left
            · intro W hW
              go_simp
              try with_reducible rfl
            try simp only [Act.put, List.setIfInBounds_toArray, List.set_cons_zero, List.set_cons_succ]
            refine Reg.take 38 (v := ?_) rfl (by kernel_rfl) (fun _ _ _ h => h) rfl ?_ ?_
            rotate_left
            · intro W hW
              go_simp
              try with_reducible rfl
            try simp only [Act.put, List.setIfInBounds_toArray, List.set_cons_zero, List.set_cons_succ]
            refine Reg.take 39 (v := ?_) rfl (by kernel_rfl) (fun _ _ _ h => h) rfl ?_ ?_
            rotate_left
            · intro W hW
              go_simp
              try with_reducible rfl
            try simp only [Act.put, List.setIfInBounds_toArray, List.set_cons_zero, List.set_cons_succ]
            refine Reg.take 40 (v := ?_) rfl (by kernel_rfl) (fun _ _ _ h => h) rfl ?_ ?_
            rotate_left
            · intro W hW
              go_simp
              try with_reducible rfl
            try simp only [Act.put, List.setIfInBounds_toArray, List.set_cons_zero, List.set_cons_succ]
            refine Reg.take 41 (v := ?_) rfl (by kernel_rfl) (fun _ _ _ h => h) rfl ?_ ?_
            rotate_left
            · intro W hW
              have l1 : W.cell? ⟨g11, 6, none⟩ = some (.int .u64 (n : Int)) := (Kg11_5.out.below hW.all Kg11_5.out.lt).cell 6
              go_simp
              try with_reducible rfl
            try simp only [Act.put, List.setIfInBounds_toArray, List.set_cons_zero, List.set_cons_succ]
            refine Reg.take 42 (v := ?_) rfl (by kernel_rfl) (fun _ _ _ h => h) rfl ?_ ?_
            rotate_left
            · intro W hW
              go_simp
              try with_reducible rfl
            try simp only [Act.put, List.setIfInBounds_toArray, List.set_cons_zero, List.set_cons_succ]
            refine Reg.take 43 (v := ?_) rfl (by kernel_rfl) (fun _ _ _ h => h) rfl ?_ ?_
            rotate_left
            · intro W hW
              have l1 : (loadRow 24 (.pointer (some ⟨g11, 0, none⟩))).run Try.prog W = .ok (.agg #[.string num, .string game, .string slip, .int .i64 first, .int .i64 price, .int .i64 date, .int .u64 (n : Int)]) W := load_rc (Kg11_5.out.below hW.all Kg11_5.out.lt) rfl
              go_simp
              try with_reducible rfl
            try simp only [Act.put, List.setIfInBounds_toArray, List.set_cons_zero, List.set_cons_succ]
            refine Reg.do_ 44 rfl (by kernel_rfl) rfl (fun K hK => ?_)
            go_simp
            refine (CS.out _).mono ?_
            rintro e v5 ⟨rfl, b5⟩
            have KB_8 := Lib.hid (KB_7.out.below b5 KB_7.out.lt)
            have BE_8 := Lib.hid (BE_7.out.trans (b5.mono BE_7.out.size))
            have Kg11_6 := Lib.hid (Kg11_5.out.below b5 Kg11_5.out.lt)
            clear KB_7 BE_7 Kg11_5
            refine hK.out _ _ b5 ?_
            clear hK K b5
            try simp only [Act.put, List.setIfInBounds_toArray, List.set_cons_zero, List.set_cons_succ]
            refine Reg.take 45 (v := ?_) rfl (by kernel_rfl) (fun _ _ _ h => h) rfl ?_ ?_
            rotate_left
            · intro W hW
              go_simp
              try with_reducible rfl
            try simp only [Act.put, List.setIfInBounds_toArray, List.set_cons_zero, List.set_cons_succ]
            refine Reg.take 46 (v := ?_) rfl (by kernel_rfl) (fun _ _ _ h => h) rfl ?_ ?_
            rotate_left
            · intro W hW
              go_simp
              try with_reducible rfl
            try simp only [Act.put, List.setIfInBounds_toArray, List.set_cons_zero, List.set_cons_succ]
            refine Reg.take 47 (v := ?_) rfl (by kernel_rfl) (fun _ _ _ h => h) rfl ?_ ?_
            rotate_left
            · intro W hW
              go_simp
              try with_reducible rfl
            try simp only [Act.put, List.setIfInBounds_toArray, List.set_cons_zero, List.set_cons_succ]
            refine Reg.do_ 48 rfl (by kernel_rfl) rfl (fun K hK => ?_)
            go_simp
            refine (awake19 _).mono ?_
            rintro e v6 ⟨rfl, b6⟩
            have KB_9 := Lib.hid (KB_8.out.below b6 KB_8.out.lt)
            have BE_9 := Lib.hid (BE_8.out.trans (b6.mono BE_8.out.size))
            have Kg11_7 := Lib.hid (Kg11_6.out.below b6 Kg11_6.out.lt)
            clear KB_8 BE_8 Kg11_6
            refine hK.out _ _ b6 ?_
            clear hK K b6
            try simp only [Act.put, List.setIfInBounds_toArray, List.set_cons_zero, List.set_cons_succ]
            refine Reg.take 49 (v := ?_) rfl (by kernel_rfl) (fun _ _ _ h => h) rfl ?_ ?_
            rotate_left
            · intro W hW
              go_simp
              try with_reducible rfl
            try simp only [Act.put, List.setIfInBounds_toArray, List.set_cons_zero, List.set_cons_succ]
            refine Reg.take 50 (v := ?_) rfl (by kernel_rfl) (fun _ _ _ h => h) rfl ?_ ?_
            rotate_left
            · intro W hW
              go_simp
              try with_reducible rfl
            try simp only [Act.put, List.setIfInBounds_toArray, List.set_cons_zero, List.set_cons_succ]
            refine Reg.done (by kernel_rfl) ?_
            go_wp2_with fail
            go_ret
            exact ⟨rfl, BE_9.out⟩
          · have tk : (key == other) = false := by simp [hko]
            have tt : (turn == 0) = false := by simp [ht0]
            have C2 : Hid (∀ W, Calls Try.prog 14 #[.int .u64 other, .agg #[.string num, .string game, .string slip, .int .i64 first, .int .i64 price, .int .i64 date, .int .u64 (n : Int)]] W (Ret (.int .i64 15) W)) := fun W => by
              have := verify_any other (issued key num game slip first price date) W hoth (issued_lim hl) (issued_ok ho)
              rw [ver_issued hk hoth, if_neg hko, HI.out] at this
              exact this
            have C3 : Hid (∀ W, Calls Try.prog 14 #[.int .u64 key, .agg #[.string num, .string game, .string slip, .int .i64 first, .int .i64 price, .int .i64 date, .int .u64 (bits .xor .u64 (n : Int) turn)]] W (Ret (.int .i64 15) W)) := fun W => by
              have h3 := ver_turn (key := key) htu num game slip first price date
              have := verify_any key ((issued key num game slip first price date).withSign (bits .xor .u64 ((issued key num game slip first price date).sign : Int) turn).toNat) W hk (withSign_lim (issued_lim hl)) (withSign_ok (issued_ok ho) (by
                have := xor_is_u64 ((issued key num game slip first price date).sign : Int) turn
                have h1 := this.1
                have h2 := this.2
                omega))
              rw [h3, if_neg ht0, HSL.out] at this
              exact this
            clear hk hoth htu ho hl hko ht0
            obtain ⟨W0, hW0⟩ : ∃ W0, W0 = w.alloc (.cells #[.string num, .string game, y2, y3, y4, y5, y6, .int .i64 first, .int .i64 price, .int .i64 date, y10, y11, y12, y13] 35) := ⟨_, rfl⟩
            have KB_0 : Hid (Blk W0 w.heap.size 35 #[.string num, .string game, y2, y3, y4, y5, y6, .int .i64 first, .int .i64 price, .int .i64 date, y10, y11, y12, y13]) := by rw [hW0]; exact Blk.new _ _ _
            have BE_0 : Hid (Below w.heap.size w W0) := by rw [hW0]; exact (Below.refl _ w).alloc (Nat.le_refl _) _
            have HW := Lib.hid hW0
            clear hW0
            go_enter Try.func8, Try.ntmps8
            go_wp2_with fail
            rw [← HW.out]
            clear HW
            refine (C0.out _).mono ?_
            rintro e v1 ⟨rfl, b1⟩
            have KB_1 := Lib.hid (KB_0.out.below b1 KB_0.out.lt)
            have BE_1 := Lib.hid (BE_0.out.trans (b1.mono BE_0.out.size))
            clear KB_0 BE_0
            clear b1
            obtain ⟨g11, hg11⟩ : ∃ g11, g11 = v1.heap.size := ⟨_, rfl⟩
            have kz : Blk (v1.alloc (.cells #[.string ⟨#[]⟩, .string ⟨#[]⟩, .string ⟨#[]⟩, .int .i64 0, .int .i64 0, .int .i64 0, .int .u64 0] 24)) v1.heap.size 24 #[.string ⟨#[]⟩, .string ⟨#[]⟩, .string ⟨#[]⟩, .int .i64 0, .int .i64 0, .int .i64 0, .int .u64 0] := Blk.new _ _ _
            have st := store_rc (cs := #[.string num, .string game, .string slip, .int .i64 first, .int .i64 price, .int .i64 date, .int .u64 (n : Int)]) kz rfl rfl rfl
            obtain ⟨W1, hW1⟩ : ∃ W1, W1 = World.setRow (v1.alloc (.cells #[.string ⟨#[]⟩, .string ⟨#[]⟩, .string ⟨#[]⟩, .int .i64 0, .int .i64 0, .int .i64 0, .int .u64 0] 24)) v1.heap.size #[.string num, .string game, .string slip, .int .i64 first, .int .i64 price, .int .i64 date, .int .u64 (n : Int)] := ⟨_, rfl⟩
            have F : Below v1.heap.size v1 W1 := by rw [hW1]; exact ((Below.refl _ _).alloc (Nat.le_refl _) _).trans ((frm_setRow _ _ _).below (by simp) (fun i hi e => by omega))
            have KB_2 := Lib.hid (KB_1.out.below F KB_1.out.lt)
            have BE_2 := Lib.hid (BE_1.out.trans (F.mono BE_1.out.size))
            clear KB_1 BE_1
            have Kg11_0 : Hid (Blk W1 g11 24 #[.string num, .string game, .string slip, .int .i64 first, .int .i64 price, .int .i64 date, .int .u64 (n : Int)]) := by rw [hW1, hg11]; exact Blk_setRow kz _
            rw [← hW1] at st
            clear hW1 kz F
            obtain ⟨g12, hg12⟩ : ∃ g12, g12 = W1.heap.size := ⟨_, rfl⟩
            have l1 : (loadRow 24 (.pointer (some ⟨v1.heap.size, 0, none⟩))).run Try.prog W1 = .ok (.agg #[.string num, .string game, .string slip, .int .i64 first, .int .i64 price, .int .i64 date, .int .u64 (n : Int)]) W1 := by rw [← hg11]; exact load_rc Kg11_0.out rfl
            have kz2 : Blk (W1.alloc (.cells #[.string ⟨#[]⟩, .string ⟨#[]⟩, .string ⟨#[]⟩, .int .i64 0, .int .i64 0, .int .i64 0, .int .u64 0] 24)) W1.heap.size 24 #[.string ⟨#[]⟩, .string ⟨#[]⟩, .string ⟨#[]⟩, .int .i64 0, .int .i64 0, .int .i64 0, .int .u64 0] := Blk.new _ _ _
            have st2 := store_rc (cs := #[.string num, .string game, .string slip, .int .i64 first, .int .i64 price, .int .i64 date, .int .u64 (n : Int)]) kz2 rfl rfl rfl
            obtain ⟨W2, hW2⟩ : ∃ W2, W2 = World.setRow (W1.alloc (.cells #[.string ⟨#[]⟩, .string ⟨#[]⟩, .string ⟨#[]⟩, .int .i64 0, .int .i64 0, .int .i64 0, .int .u64 0] 24)) W1.heap.size #[.string num, .string game, .string slip, .int .i64 first, .int .i64 price, .int .i64 date, .int .u64 (n : Int)] := ⟨_, rfl⟩
            have K12 : Blk W2 W1.heap.size 24 #[.string num, .string game, .string slip, .int .i64 first, .int .i64 price, .int .i64 date, .int .u64 (n : Int)] := by rw [hW2]; exact Blk_setRow kz2 _
            have F12 : Below W1.heap.size W1 W2 := by rw [hW2]; exact ((Below.refl _ _).alloc (Nat.le_refl _) _).trans ((frm_setRow _ _ _).below (by simp) (fun i hi e => by omega))
            rw [← hW2] at st2
            have q6 : W2.cell? ⟨v1.heap.size, 6, none⟩ = some (.int .u64 (n : Int)) := by rw [← hg11]; exact (Kg11_0.out.below F12 Kg11_0.out.lt).cell 6
            have q12 : W2.cell? ⟨W1.heap.size, 6, none⟩ = some (.int .u64 (n : Int)) := K12.cell 6
            have z12 : W2.frozen? ⟨W1.heap.size, 6, none⟩ = false := K12.frozen 6
            have F : Below W1.heap.size W1 (W2.setCell ⟨g12, 6, none⟩ (.int .u64 (bits .xor .u64 (n : Int) turn))) := F12.setCell (p := ⟨g12, 6, none⟩) (by show W1.heap.size ≤ g12; omega) _
            have la : (loadRow 24 (.pointer (some ⟨v1.heap.size, 0, none⟩))).run Try.prog (W2.setCell ⟨W1.heap.size, 6, none⟩ (.int .u64 (bits .xor .u64 (n : Int) turn))) = .ok (.agg #[.string num, .string game, .string slip, .int .i64 first, .int .i64 price, .int .i64 date, .int .u64 (n : Int)]) (W2.setCell ⟨W1.heap.size, 6, none⟩ (.int .u64 (bits .xor .u64 (n : Int) turn))) := by rw [← hg11, ← hg12]; exact load_rc (Kg11_0.out.below F Kg11_0.out.lt) rfl
            have KB_3 := Lib.hid (KB_2.out.below F KB_2.out.lt)
            have BE_3 := Lib.hid (BE_2.out.trans (F.mono BE_2.out.size))
            have Kg11_1 := Lib.hid (Kg11_0.out.below F Kg11_0.out.lt)
            clear KB_2 BE_2 Kg11_0
            have Kg12_0 : Hid (Blk (W2.setCell ⟨g12, 6, none⟩ (.int .u64 (bits .xor .u64 (n : Int) turn))) g12 24 #[.string num, .string game, .string slip, .int .i64 first, .int .i64 price, .int .i64 date, .int .u64 (bits .xor .u64 (n : Int) turn)]) := by rw [hg12]; exact K12.put 6 _
            clear hW2 kz2 K12 F12 F
            go_wp2_with fail
            clear st l1 st2 q6 q12 z12 la
            rw [← hg11, ← hg12]
            clear hg11 hg12
            generalize W2.setCell ⟨g12, 6, none⟩ (.int .u64 (bits .xor .u64 (n : Int) turn)) = W3 at *
            refine (C1.out _).mono ?_
            rintro e v2 ⟨rfl, b2⟩
            have KB_4 := Lib.hid (KB_3.out.below b2 KB_3.out.lt)
            have BE_4 := Lib.hid (BE_3.out.trans (b2.mono BE_3.out.size))
            have Kg11_2 := Lib.hid (Kg11_1.out.below b2 Kg11_1.out.lt)
            have Kg12_1 := Lib.hid (Kg12_0.out.below b2 Kg12_0.out.lt)
            clear KB_3 BE_3 Kg11_1 Kg12_0
            clear b2
            have la : (loadRow 24 (.pointer (some ⟨g11, 0, none⟩))).run Try.prog v2 = .ok (.agg #[.string num, .string game, .string slip, .int .i64 first, .int .i64 price, .int .i64 date, .int .u64 (n : Int)]) v2 := load_rc Kg11_2.out rfl
            go_wp2_with fail
            clear la
            refine (C2.out _).mono ?_
            rintro e v3 ⟨rfl, b3⟩
            have KB_5 := Lib.hid (KB_4.out.below b3 KB_4.out.lt)
            have BE_5 := Lib.hid (BE_4.out.trans (b3.mono BE_4.out.size))
            have Kg11_3 := Lib.hid (Kg11_2.out.below b3 Kg11_2.out.lt)
            have Kg12_2 := Lib.hid (Kg12_1.out.below b3 Kg12_1.out.lt)
            clear KB_4 BE_4 Kg11_2 Kg12_1
            clear b3
            have la : (loadRow 24 (.pointer (some ⟨g12, 0, none⟩))).run Try.prog v3 = .ok (.agg #[.string num, .string game, .string slip, .int .i64 first, .int .i64 price, .int .i64 date, .int .u64 (bits .xor .u64 (n : Int) turn)]) v3 := load_rc Kg12_2.out rfl
            go_wp2_with fail
            clear la
            refine (C3.out _).mono ?_
            rintro e v4 ⟨rfl, b4⟩
            have KB_6 := Lib.hid (KB_5.out.below b4 KB_5.out.lt)
            have BE_6 := Lib.hid (BE_5.out.trans (b4.mono BE_5.out.size))
            have Kg11_4 := Lib.hid (Kg11_3.out.below b4 Kg11_3.out.lt)
            have Kg12_3 := Lib.hid (Kg12_2.out.below b4 Kg12_2.out.lt)
            clear KB_5 BE_5 Kg11_3 Kg12_2
            clear b4
            go_wp2_with fail
            have F : Below v4.heap.size v4 v4.drew := (Below.refl _ _).drew
            have KB_7 := Lib.hid (KB_6.out.below F KB_6.out.lt)
            have BE_7 := Lib.hid (BE_6.out.trans (F.mono BE_6.out.size))
            have Kg11_5 := Lib.hid (Kg11_4.out.below F Kg11_4.out.lt)
            clear KB_6 BE_6 Kg11_4
            clear F
            refine Reg.start (by kernel_rfl) ?_
            refine Reg.take 0 (v := ?_) rfl (by kernel_rfl) (fun _ _ _ h => h) rfl ?_ ?_
            rotate_left
            · intro W hW
              go_simp
              try with_reducible rfl
            try simp only [Act.put, List.setIfInBounds_toArray, List.set_cons_zero, List.set_cons_succ]
            refine Reg.take 1 (v := ?_) rfl (by kernel_rfl) (fun _ _ _ h => h) rfl ?_ ?_
            rotate_left
            · intro W hW
              have l1 : W.cell? ⟨g11, 0, none⟩ = some (.string num) := (Kg11_5.out.below hW.all Kg11_5.out.lt).cell 0
              go_simp
              try with_reducible rfl
            try simp only [Act.put, List.setIfInBounds_toArray, List.set_cons_zero, List.set_cons_succ]
            refine Reg.take 2 (v := ?_) rfl (by kernel_rfl) (fun _ _ _ h => h) rfl ?_ ?_
            rotate_left
            · intro W hW
              go_simp
              try with_reducible rfl
            try simp only [Act.put, List.setIfInBounds_toArray, List.set_cons_zero, List.set_cons_succ]
            refine Reg.take 3 (v := ?_) rfl (by kernel_rfl) (fun _ _ _ h => h) rfl ?_ ?_
            rotate_left
            · intro W hW
              have l1 : W.cell? ⟨w.heap.size, 0, none⟩ = some (.string num) := (KB_7.out.below hW.all KB_7.out.lt).cell 0
              go_simp
              try with_reducible rfl
            try simp only [Act.put, List.setIfInBounds_toArray, List.set_cons_zero, List.set_cons_succ]
            refine Reg.take 4 (v := ?_) rfl (by kernel_rfl) (fun _ _ _ h => h) rfl ?_ ?_
            rotate_left
            · intro W hW
              go_simp
              try with_reducible rfl
            try simp only [Act.put, List.setIfInBounds_toArray, List.set_cons_zero, List.set_cons_succ]
            refine Reg.take 5 (v := ?_) rfl (by kernel_rfl) (fun _ _ _ h => h) rfl ?_ ?_
            rotate_left
            · intro W hW
              go_simp
              try with_reducible rfl
            try simp only [Act.put, List.setIfInBounds_toArray, List.set_cons_zero, List.set_cons_succ]
            refine Reg.take 6 (v := ?_) rfl (by kernel_rfl) (fun _ _ _ h => h) rfl ?_ ?_
            rotate_left
            · intro W hW
              go_simp
              try with_reducible rfl
            try simp only [Act.put, List.setIfInBounds_toArray, List.set_cons_zero, List.set_cons_succ]
            refine Reg.take 7 (v := ?_) rfl (by kernel_rfl) (fun _ _ _ h => h) rfl ?_ ?_
            rotate_left
            · intro W hW
              have l1 : W.cell? ⟨g11, 1, none⟩ = some (.string game) := (Kg11_5.out.below hW.all Kg11_5.out.lt).cell 1
              go_simp
              try with_reducible rfl
            try simp only [Act.put, List.setIfInBounds_toArray, List.set_cons_zero, List.set_cons_succ]
            refine Reg.take 8 (v := ?_) rfl (by kernel_rfl) (fun _ _ _ h => h) rfl ?_ ?_
            rotate_left
            · intro W hW
              go_simp
              try with_reducible rfl
            try simp only [Act.put, List.setIfInBounds_toArray, List.set_cons_zero, List.set_cons_succ]
            refine Reg.take 9 (v := ?_) rfl (by kernel_rfl) (fun _ _ _ h => h) rfl ?_ ?_
            rotate_left
            · intro W hW
              have l1 : W.cell? ⟨w.heap.size, 1, none⟩ = some (.string game) := (KB_7.out.below hW.all KB_7.out.lt).cell 1
              go_simp
              try with_reducible rfl
            try simp only [Act.put, List.setIfInBounds_toArray, List.set_cons_zero, List.set_cons_succ]
            refine Reg.take 10 (v := ?_) rfl (by kernel_rfl) (fun _ _ _ h => h) rfl ?_ ?_
            rotate_left
            · intro W hW
              go_simp
              try with_reducible rfl
            try simp only [Act.put, List.setIfInBounds_toArray, List.set_cons_zero, List.set_cons_succ]
            refine Reg.take 11 (v := ?_) rfl (by kernel_rfl) (fun _ _ _ h => h) rfl ?_ ?_
            rotate_left
            · intro W hW
              go_simp
              try with_reducible rfl
            try simp only [Act.put, List.setIfInBounds_toArray, List.set_cons_zero, List.set_cons_succ]
            refine Reg.take 12 (v := ?_) rfl (by kernel_rfl) (fun _ _ _ h => h) rfl ?_ ?_
            rotate_left
            · intro W hW
              go_simp
              try with_reducible rfl
            try simp only [Act.put, List.setIfInBounds_toArray, List.set_cons_zero, List.set_cons_succ]
            refine Reg.take 13 (v := ?_) rfl (by kernel_rfl) (fun _ _ _ h => h) rfl ?_ ?_
            rotate_left
            · intro W hW
              go_simp
              try with_reducible rfl
            try simp only [Act.put, List.setIfInBounds_toArray, List.set_cons_zero, List.set_cons_succ]
            refine Reg.take 14 (v := ?_) rfl (by kernel_rfl) (fun _ _ _ h => h) rfl ?_ ?_
            rotate_left
            · intro W hW
              have l1 : W.cell? ⟨g11, 2, none⟩ = some (.string slip) := (Kg11_5.out.below hW.all Kg11_5.out.lt).cell 2
              go_simp
              try with_reducible rfl
            try simp only [Act.put, List.setIfInBounds_toArray, List.set_cons_zero, List.set_cons_succ]
            refine Reg.take 15 (v := ?_) rfl (by kernel_rfl) (fun _ _ _ h => h) rfl ?_ ?_
            rotate_left
            · intro W hW
              go_simp
              try with_reducible rfl
            try simp only [Act.put, List.setIfInBounds_toArray, List.set_cons_zero, List.set_cons_succ]
            refine Reg.take 16 (v := ?_) rfl (by kernel_rfl) (fun _ _ _ h => h) rfl ?_ ?_
            rotate_left
            · intro W hW
              go_simp
              try with_reducible rfl
            try simp only [Act.put, List.setIfInBounds_toArray, List.set_cons_zero, List.set_cons_succ]
            refine Reg.take 17 (v := ?_) rfl (by kernel_rfl) (fun _ _ _ h => h) rfl ?_ ?_
            rotate_left
            · intro W hW
              go_simp
              try with_reducible rfl
            try simp only [Act.put, List.setIfInBounds_toArray, List.set_cons_zero, List.set_cons_succ]
            refine Reg.take 18 (v := ?_) rfl (by kernel_rfl) (fun _ _ _ h => h) rfl ?_ ?_
            rotate_left
            · intro W hW
              go_simp
              try with_reducible rfl
            try simp only [Act.put, List.setIfInBounds_toArray, List.set_cons_zero, List.set_cons_succ]
            refine Reg.take 19 (v := ?_) rfl (by kernel_rfl) (fun _ _ _ h => h) rfl ?_ ?_
            rotate_left
            · intro W hW
              go_simp
              try with_reducible rfl
            try simp only [Act.put, List.setIfInBounds_toArray, List.set_cons_zero, List.set_cons_succ]
            refine Reg.take 20 (v := ?_) rfl (by kernel_rfl) (fun _ _ _ h => h) rfl ?_ ?_
            rotate_left
            · intro W hW
              have l1 : W.cell? ⟨g11, 3, none⟩ = some (.int .i64 first) := (Kg11_5.out.below hW.all Kg11_5.out.lt).cell 3
              go_simp
              try with_reducible rfl
            try simp only [Act.put, List.setIfInBounds_toArray, List.set_cons_zero, List.set_cons_succ]
            refine Reg.take 21 (v := ?_) rfl (by kernel_rfl) (fun _ _ _ h => h) rfl ?_ ?_
            rotate_left
            · intro W hW
              go_simp
              try with_reducible rfl
            try simp only [Act.put, List.setIfInBounds_toArray, List.set_cons_zero, List.set_cons_succ]
            refine Reg.take 22 (v := ?_) rfl (by kernel_rfl) (fun _ _ _ h => h) rfl ?_ ?_
            rotate_left
            · intro W hW
              have l1 : W.cell? ⟨w.heap.size, 7, none⟩ = some (.int .i64 first) := (KB_7.out.below hW.all KB_7.out.lt).cell 7
              go_simp
              try with_reducible rfl
            try simp only [Act.put, List.setIfInBounds_toArray, List.set_cons_zero, List.set_cons_succ]
            refine Reg.take 23 (v := ?_) rfl (by kernel_rfl) (fun _ _ _ h => h) rfl ?_ ?_
            rotate_left
            · intro W hW
              go_simp
              try with_reducible rfl
            try simp only [Act.put, List.setIfInBounds_toArray, List.set_cons_zero, List.set_cons_succ]
            refine Reg.take 24 (v := ?_) rfl (by kernel_rfl) (fun _ _ _ h => h) rfl ?_ ?_
            rotate_left
            · intro W hW
              go_simp
              try with_reducible rfl
            try simp only [Act.put, List.setIfInBounds_toArray, List.set_cons_zero, List.set_cons_succ]
            refine Reg.take 25 (v := ?_) rfl (by kernel_rfl) (fun _ _ _ h => h) rfl ?_ ?_
            rotate_left
            · intro W hW
              go_simp
              try with_reducible rfl
            try simp only [Act.put, List.setIfInBounds_toArray, List.set_cons_zero, List.set_cons_succ]
            refine Reg.take 26 (v := ?_) rfl (by kernel_rfl) (fun _ _ _ h => h) rfl ?_ ?_
            rotate_left
            · intro W hW
              go_simp
              try with_reducible rfl
            try simp only [Act.put, List.setIfInBounds_toArray, List.set_cons_zero, List.set_cons_succ]
            refine Reg.take 27 (v := ?_) rfl (by kernel_rfl) (fun _ _ _ h => h) rfl ?_ ?_
            rotate_left
            · intro W hW
              have l1 : W.cell? ⟨g11, 4, none⟩ = some (.int .i64 price) := (Kg11_5.out.below hW.all Kg11_5.out.lt).cell 4
              go_simp
              try with_reducible rfl
            try simp only [Act.put, List.setIfInBounds_toArray, List.set_cons_zero, List.set_cons_succ]
            refine Reg.take 28 (v := ?_) rfl (by kernel_rfl) (fun _ _ _ h => h) rfl ?_ ?_
            rotate_left
            · intro W hW
              go_simp
              try with_reducible rfl
            try simp only [Act.put, List.setIfInBounds_toArray, List.set_cons_zero, List.set_cons_succ]
            refine Reg.take 29 (v := ?_) rfl (by kernel_rfl) (fun _ _ _ h => h) rfl ?_ ?_
            rotate_left
            · intro W hW
              have l1 : W.cell? ⟨w.heap.size, 8, none⟩ = some (.int .i64 price) := (KB_7.out.below hW.all KB_7.out.lt).cell 8
              go_simp
              try with_reducible rfl
            try simp only [Act.put, List.setIfInBounds_toArray, List.set_cons_zero, List.set_cons_succ]
            refine Reg.take 30 (v := ?_) rfl (by kernel_rfl) (fun _ _ _ h => h) rfl ?_ ?_
            rotate_left
            · intro W hW
              go_simp
              try with_reducible rfl
            try simp only [Act.put, List.setIfInBounds_toArray, List.set_cons_zero, List.set_cons_succ]
            refine Reg.take 31 (v := ?_) rfl (by kernel_rfl) (fun _ _ _ h => h) rfl ?_ ?_
            rotate_left
            · intro W hW
              go_simp
              try with_reducible rfl
            try simp only [Act.put, List.setIfInBounds_toArray, List.set_cons_zero, List.set_cons_succ]
            refine Reg.take 32 (v := ?_) rfl (by kernel_rfl) (fun _ _ _ h => h) rfl ?_ ?_
            rotate_left
            · intro W hW
              go_simp
              try with_reducible rfl
            try simp only [Act.put, List.setIfInBounds_toArray, List.set_cons_zero, List.set_cons_succ]
            refine Reg.take 33 (v := ?_) rfl (by kernel_rfl) (fun _ _ _ h => h) rfl ?_ ?_
            rotate_left
            · intro W hW
              go_simp
              try with_reducible rfl
            try simp only [Act.put, List.setIfInBounds_toArray, List.set_cons_zero, List.set_cons_succ]
            refine Reg.take 34 (v := ?_) rfl (by kernel_rfl) (fun _ _ _ h => h) rfl ?_ ?_
            rotate_left
            · intro W hW
              have l1 : W.cell? ⟨g11, 5, none⟩ = some (.int .i64 date) := (Kg11_5.out.below hW.all Kg11_5.out.lt).cell 5
              go_simp
              try with_reducible rfl
            try simp only [Act.put, List.setIfInBounds_toArray, List.set_cons_zero, List.set_cons_succ]
            refine Reg.take 35 (v := ?_) rfl (by kernel_rfl) (fun _ _ _ h => h) rfl ?_ ?_
            rotate_left
            · intro W hW
              go_simp
              try with_reducible rfl
            try simp only [Act.put, List.setIfInBounds_toArray, List.set_cons_zero, List.set_cons_succ]
            refine Reg.take 36 (v := ?_) rfl (by kernel_rfl) (fun _ _ _ h => h) rfl ?_ ?_
            rotate_left
            · intro W hW
              have l1 : W.cell? ⟨w.heap.size, 9, none⟩ = some (.int .i64 date) := (KB_7.out.below hW.all KB_7.out.lt).cell 9
              go_simp
              try with_reducible rfl
            try simp only [Act.put, List.setIfInBounds_toArray, List.set_cons_zero, List.set_cons_succ]
            refine Reg.take 37 (v := ?_) rfl (by kernel_rfl) (fun _ _ _ h => h) rfl ?_ ?_
            rotate_left
            · intro W hW
              go_simp
              try with_reducible rfl
            try simp only [Act.put, List.setIfInBounds_toArray, List.set_cons_zero, List.set_cons_succ]
            refine Reg.take 38 (v := ?_) rfl (by kernel_rfl) (fun _ _ _ h => h) rfl ?_ ?_
            rotate_left
            · intro W hW
              go_simp
              try with_reducible rfl
            try simp only [Act.put, List.setIfInBounds_toArray, List.set_cons_zero, List.set_cons_succ]
            refine Reg.take 39 (v := ?_) rfl (by kernel_rfl) (fun _ _ _ h => h) rfl ?_ ?_
            rotate_left
            · intro W hW
              go_simp
              try with_reducible rfl
            try simp only [Act.put, List.setIfInBounds_toArray, List.set_cons_zero, List.set_cons_succ]
            refine Reg.take 40 (v := ?_) rfl (by kernel_rfl) (fun _ _ _ h => h) rfl ?_ ?_
            rotate_left
            · intro W hW
              go_simp
              try with_reducible rfl
            try simp only [Act.put, List.setIfInBounds_toArray, List.set_cons_zero, List.set_cons_succ]
            refine Reg.take 41 (v := ?_) rfl (by kernel_rfl) (fun _ _ _ h => h) rfl ?_ ?_
            rotate_left
            · intro W hW
              have l1 : W.cell? ⟨g11, 6, none⟩ = some (.int .u64 (n : Int)) := (Kg11_5.out.below hW.all Kg11_5.out.lt).cell 6
              go_simp
              try with_reducible rfl
            try simp only [Act.put, List.setIfInBounds_toArray, List.set_cons_zero, List.set_cons_succ]
            refine Reg.take 42 (v := ?_) rfl (by kernel_rfl) (fun _ _ _ h => h) rfl ?_ ?_
            rotate_left
            · intro W hW
              go_simp
              try with_reducible rfl
            try simp only [Act.put, List.setIfInBounds_toArray, List.set_cons_zero, List.set_cons_succ]
            refine Reg.take 43 (v := ?_) rfl (by kernel_rfl) (fun _ _ _ h => h) rfl ?_ ?_
            rotate_left
            · intro W hW
              have l1 : (loadRow 24 (.pointer (some ⟨g11, 0, none⟩))).run Try.prog W = .ok (.agg #[.string num, .string game, .string slip, .int .i64 first, .int .i64 price, .int .i64 date, .int .u64 (n : Int)]) W := load_rc (Kg11_5.out.below hW.all Kg11_5.out.lt) rfl
              go_simp
              try with_reducible rfl
            try simp only [Act.put, List.setIfInBounds_toArray, List.set_cons_zero, List.set_cons_succ]
            refine Reg.do_ 44 rfl (by kernel_rfl) rfl (fun K hK => ?_)
            go_simp
            refine (CS.out _).mono ?_
            rintro e v5 ⟨rfl, b5⟩
            have KB_8 := Lib.hid (KB_7.out.below b5 KB_7.out.lt)
            have BE_8 := Lib.hid (BE_7.out.trans (b5.mono BE_7.out.size))
            have Kg11_6 := Lib.hid (Kg11_5.out.below b5 Kg11_5.out.lt)
            clear KB_7 BE_7 Kg11_5
            refine hK.out _ _ b5 ?_
            clear hK K b5
            try simp only [Act.put, List.setIfInBounds_toArray, List.set_cons_zero, List.set_cons_succ]
            refine Reg.take 45 (v := ?_) rfl (by kernel_rfl) (fun _ _ _ h => h) rfl ?_ ?_
            rotate_left
            · intro W hW
              go_simp
              try with_reducible rfl
            try simp only [Act.put, List.setIfInBounds_toArray, List.set_cons_zero, List.set_cons_succ]
            refine Reg.take 46 (v := ?_) rfl (by kernel_rfl) (fun _ _ _ h => h) rfl ?_ ?_
            rotate_left
            · intro W hW
              go_simp
              try with_reducible rfl
            try simp only [Act.put, List.setIfInBounds_toArray, List.set_cons_zero, List.set_cons_succ]
            refine Reg.take 47 (v := ?_) rfl (by kernel_rfl) (fun _ _ _ h => h) rfl ?_ ?_
            rotate_left
            · intro W hW
              go_simp
              try with_reducible rfl
            try simp only [Act.put, List.setIfInBounds_toArray, List.set_cons_zero, List.set_cons_succ]
            refine Reg.do_ 48 rfl (by kernel_rfl) rfl (fun K hK => ?_)
            go_simp
            refine (awake19 _).mono ?_
            rintro e v6 ⟨rfl, b6⟩
            have KB_9 := Lib.hid (KB_8.out.below b6 KB_8.out.lt)
            have BE_9 := Lib.hid (BE_8.out.trans (b6.mono BE_8.out.size))
            have Kg11_7 := Lib.hid (Kg11_6.out.below b6 Kg11_6.out.lt)
            clear KB_8 BE_8 Kg11_6
            refine hK.out _ _ b6 ?_
            clear hK K b6
            try simp only [Act.put, List.setIfInBounds_toArray, List.set_cons_zero, List.set_cons_succ]
            refine Reg.take 49 (v := ?_) rfl (by kernel_rfl) (fun _ _ _ h => h) rfl ?_ ?_
            rotate_left
            · intro W hW
              go_simp
              try with_reducible rfl
            try simp only [Act.put, List.setIfInBounds_toArray, List.set_cons_zero, List.set_cons_succ]
            refine Reg.take 50 (v := ?_) rfl (by kernel_rfl) (fun _ _ _ h => h) rfl ?_ ?_
            rotate_left
            · intro W hW
              go_simp
              try with_reducible rfl
            try simp only [Act.put, List.setIfInBounds_toArray, List.set_cons_zero, List.set_cons_succ]
            refine Reg.done (by kernel_rfl) ?_
            go_wp2_with fail
            go_ret
            exact ⟨rfl, BE_9.out⟩
      · have i2 : (2000 : Int) < ((slip.size : Nat) : Int) := by omega
        clear hk hoth htu ho
        obtain ⟨W0, hW0⟩ : ∃ W0, W0 = w.alloc (.cells #[.string num, .string game, y2, y3, y4, y5, y6, .int .i64 first, .int .i64 price, .int .i64 date, y10, y11, y12, y13] 35) := ⟨_, rfl⟩
        have KB_0 : Hid (Blk W0 w.heap.size 35 #[.string num, .string game, y2, y3, y4, y5, y6, .int .i64 first, .int .i64 price, .int .i64 date, y10, y11, y12, y13]) := by rw [hW0]; exact Blk.new _ _ _
        have BE_0 : Hid (Below w.heap.size w W0) := by rw [hW0]; exact (Below.refl _ w).alloc (Nat.le_refl _) _
        have HW := Lib.hid hW0
        clear hW0
        go_enter Try.func8, Try.ntmps8
        go_wp2_with fail
        rw [← HW.out]
        clear HW
        refine (awake19 _).mono ?_
        rintro e v1 ⟨rfl, b1⟩
        have KB_1 := Lib.hid (KB_0.out.below b1 KB_0.out.lt)
        have BE_1 := Lib.hid (BE_0.out.trans (b1.mono BE_0.out.size))
        clear KB_0 BE_0
        clear b1
        go_wp2_with fail
        go_ret
        exact ⟨rfl, BE_1.out⟩
    · have i1 : (2000 : Int) < ((game.size : Nat) : Int) := by omega
      clear hk hoth htu ho
      obtain ⟨W0, hW0⟩ : ∃ W0, W0 = w.alloc (.cells #[.string num, .string game, y2, y3, y4, y5, y6, .int .i64 first, .int .i64 price, .int .i64 date, y10, y11, y12, y13] 35) := ⟨_, rfl⟩
      have KB_0 : Hid (Blk W0 w.heap.size 35 #[.string num, .string game, y2, y3, y4, y5, y6, .int .i64 first, .int .i64 price, .int .i64 date, y10, y11, y12, y13]) := by rw [hW0]; exact Blk.new _ _ _
      have BE_0 : Hid (Below w.heap.size w W0) := by rw [hW0]; exact (Below.refl _ w).alloc (Nat.le_refl _) _
      have HW := Lib.hid hW0
      clear hW0
      go_enter Try.func8, Try.ntmps8
      go_wp2_with fail
      rw [← HW.out]
      clear HW
      refine (awake19 _).mono ?_
      rintro e v1 ⟨rfl, b1⟩
      have KB_1 := Lib.hid (KB_0.out.below b1 KB_0.out.lt)
      have BE_1 := Lib.hid (BE_0.out.trans (b1.mono BE_0.out.size))
      clear KB_0 BE_0
      clear b1
      go_wp2_with fail
      go_ret
      exact ⟨rfl, BE_1.out⟩
  · have i0 : (2000 : Int) < ((num.size : Nat) : Int) := by omega
    clear hk hoth htu ho
    obtain ⟨W0, hW0⟩ : ∃ W0, W0 = w.alloc (.cells #[.string num, .string game, y2, y3, y4, y5, y6, .int .i64 first, .int .i64 price, .int .i64 date, y10, y11, y12, y13] 35) := ⟨_, rfl⟩
    have KB_0 : Hid (Blk W0 w.heap.size 35 #[.string num, .string game, y2, y3, y4, y5, y6, .int .i64 first, .int .i64 price, .int .i64 date, y10, y11, y12, y13]) := by rw [hW0]; exact Blk.new _ _ _
    have BE_0 : Hid (Below w.heap.size w W0) := by rw [hW0]; exact (Below.refl _ w).alloc (Nat.le_refl _) _
    have HW := Lib.hid hW0
    clear hW0
    go_enter Try.func8, Try.ntmps8
    go_wp2_with fail
    rw [← HW.out]
    clear HW
    refine (awake19 _).mono ?_
    rintro e v1 ⟨rfl, b1⟩
    have KB_1 := Lib.hid (KB_0.out.below b1 KB_0.out.lt)
    have BE_1 := Lib.hid (BE_0.out.trans (b1.mono BE_0.out.size))
    clear KB_0 BE_0
    clear b1
    go_wp2_with fail
    go_ret
    exact ⟨rfl, BE_1.out⟩
end Go.Proofs.Ytjnaooiklcbemaa.Rt
