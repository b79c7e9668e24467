/-
  The walk of ReceiptRoundTrips. Conditions: numbers of their kinds.
-/
import Derived.Test.YtjnaooiklcbemaaRtAwake
import Derived.Test.YtjnaooiklcbemaaReg
namespace Go.Proofs.Ytjnaooiklcbemaa.Rt
open Go.RowKit Go.Proofs.Ytjnaooiklcbemaa.Mem Go.Proofs.Ytjnaooiklcbemaa.Wr Go.Proofs.Ytjnaooiklcbemaa.Dg
attribute [local go_sem ↓] exec_load_rc exec_store_rc
attribute [local go_sem ↓] exec_cut

theorem two_appends {W w1 w2 : World} {v1 : Value} {o1 o2 : Obj} (hg1 : (W.alloc o1).grownBy w1 (some W.heap.size)) (hat1 : v1.ownBlock = some W.heap.size ∨ v1.ownBlock = some (W.alloc o1).heap.size) (hg2 : (w1.alloc o2).grownBy w2 v1.ownBlock) : Below W.heap.size W w2 := by
  have b1 : Below W.heap.size W w1 := ((Below.refl _ _).alloc (Nat.le_refl _) o1).grown hg1 (by simp) (fun j hj => by injection hj with hj; omega)
  refine (b1.alloc b1.size o2).grown hg2 (by have := b1.size; simp; omega) (fun j hj => ?_)
  rcases hat1 with e | e
  · rw [e] at hj; injection hj with hj; omega
  · rw [e] at hj
    injection hj with hj
    simp at hj
    omega
set_option maxRecDepth 100000 in
set_option maxHeartbeats 4000000 in
theorem rounds_walk (r : Rc) (c : UInt8) (w : World) (ho : r.ok) :
    Calls Try.prog 7 #[.agg r.cells, .int .u8 (c.toNat : Int)] w fun e w' => e = .returned (.bool true) ∧ Below w.heap.size w w' := by
  by_cases z0 : r.num.size ≤ 24
  · have i0 : ((r.num.size : Nat) : Int) ≤ 24 := by omega
    by_cases z1 : r.game.size ≤ 24
    · have i1 : ((r.game.size : Nat) : Int) ≤ 24 := by omega
      by_cases z2 : r.slip.size ≤ 2000
      · have i2 : ((r.slip.size : Nat) : Int) ≤ 2000 := by omega
        have hsh : r.short := ⟨z0, z1, z2⟩
        have hl : r.lim := ⟨Nat.le_trans z0 (by omega), Nat.le_trans z1 (by omega), Nat.le_trans z2 (by omega)⟩
        obtain ⟨k, hk⟩ : ∃ k, r.enc.length = k + 1 := ⟨r.enc.length - 1, by have := enc_pos r; omega⟩
        have hkb : k ≤ 300070 := by
          have h1 := part_le hl ho
          have h2 := uv_len64 ho.sign
          have h3 : r.enc.length = r.part.length + (uv r.sign).length := by simp [Rc.enc]
          omega
        have hkl : (k : Int) ≤ 300070 := by omega
        have h0k : (0 : Int) ≤ (k : Int) := by omega
        have HK := Lib.hid hk
        have C1 : Hid (∀ W, Calls Try.prog 18 #[.agg #[.string r.num, .string r.game, .string r.slip, .int .i64 r.first, .int .i64 r.price, .int .i64 r.date, .int .u64 (r.sign : Int)]] W (RetBytes r.enc W)) := fun W => encode_any r W hl ho
        have D1 : Hid (∀ W A c, Sl W 1 A (k + 1) (byts r.enc) → Calls Try.prog 20 #[.slice A (k + 1) c] W (Ret (.tuple #[.agg #[.string r.num, .string r.game, .string r.slip, .int .i64 r.first, .int .i64 r.price, .int .i64 r.date, .int .u64 (r.sign : Int)], .int .i64 0]) W)) := fun W A c hS => (decode_any r.enc A (k + 1) c W hS (by omega)).mono fun e w' ⟨he, hb⟩ => ⟨by rw [he, (dec_enc hsh ho).1, (dec_enc hsh ho).2]; rfl, hb⟩
        have D2 : Hid (∀ W A c2, Sl W 1 A (k + 2) (byts (r.enc ++ [c])) → Calls Try.prog 20 #[.slice A (k + 2) c2] W (Ret (.tuple #[.agg #[.string ⟨#[]⟩, .string ⟨#[]⟩, .string ⟨#[]⟩, .int .i64 0, .int .i64 0, .int .i64 0, .int .u64 0], .int .i64 1]) W)) := fun W A c2 hS => (decode_any (r.enc ++ [c]) A (k + 2) c2 W hS (by omega)).mono fun e w' ⟨he, hb⟩ => ⟨by rw [he]; unfold dec; rw [dec_more hsh ho c]; rfl, hb⟩
        have D3 : Hid (∀ W A c2, Sl W 1 A k (byts (r.enc.take k)) → Calls Try.prog 20 #[.slice A k c2] W (Ret (.tuple #[.agg #[.string ⟨#[]⟩, .string ⟨#[]⟩, .string ⟨#[]⟩, .int .i64 0, .int .i64 0, .int .i64 0, .int .u64 0], .int .i64 28]) W)) := fun W A c2 hS => (decode_any (r.enc.take k) A k c2 W hS (by omega)).mono fun e w' ⟨he, hb⟩ => ⟨by rw [he]; unfold dec; have := dec_less hsh ho; rw [hk, Nat.add_sub_cancel] at this; rw [this]; rfl, hb⟩
        have HEQ : Hid (∀ W, (binOp .eql 24 (.agg #[.string r.num, .string r.game, .string r.slip, .int .i64 r.first, .int .i64 r.price, .int .i64 r.date, .int .u64 (r.sign : Int)]) (.agg #[.string r.num, .string r.game, .string r.slip, .int .i64 r.first, .int .i64 r.price, .int .i64 r.date, .int .u64 (r.sign : Int)])).run Try.prog W = .ok (.bool true) W) := fun W => (run_rc_eql r r W).trans (by rw [(sameR_iff r r).2 rfl])
        have l0 : (loadRow 24 (.pointer (some ⟨w.heap.size, 0, none⟩))).run Try.prog (w.alloc (.cells #[.string r.num, .string r.game, .string r.slip, .int .i64 r.first, .int .i64 r.price, .int .i64 r.date, .int .u64 (r.sign : Int)] 24)) = .ok (.agg #[.string r.num, .string r.game, .string r.slip, .int .i64 r.first, .int .i64 r.price, .int .i64 r.date, .int .u64 (r.sign : Int)]) (w.alloc (.cells #[.string r.num, .string r.game, .string r.slip, .int .i64 r.first, .int .i64 r.price, .int .i64 r.date, .int .u64 (r.sign : Int)] 24)) := load_rc (Blk.new _ _ _) rfl
        generalize r.enc = en at *
        obtain ⟨i0, hi0, hz0, hz1, hz2⟩ := info_parts u8_info
        clear ho hsh hl hk
        obtain ⟨W0, hW0⟩ : ∃ W0, W0 = w.alloc (.cells #[.string r.num, .string r.game, .string r.slip, .int .i64 r.first, .int .i64 r.price, .int .i64 r.date, .int .u64 (r.sign : Int)] 24) := ⟨_, rfl⟩
        have KB_0 : Hid (Blk W0 w.heap.size 24 #[.string r.num, .string r.game, .string r.slip, .int .i64 r.first, .int .i64 r.price, .int .i64 r.date, .int .u64 (r.sign : Int)]) := by rw [hW0]; exact Blk.new _ _ _
        have BE_0 : Hid (Below w.heap.size w W0) := by rw [hW0]; exact (Below.refl _ w).alloc (Nat.le_refl _) _
        have HW := Lib.hid hW0
        clear hW0
        unfold Rc.cells
        go_enter Try.func7, Try.ntmps7
        go_wp2_with fail
        rw [← HW.out]
        clear HW
        clear l0
        refine (C1.out _).mono ?_
        rintro e v1 ⟨x1, rfl, o1, f1, b1⟩
        rw [HK.out] at o1
        obtain ⟨A1, c1, rfl, s1⟩ := own_form o1
        have HC1 := Lib.hid (own_cap o1)
        have KB_1 := Lib.hid (KB_0.out.below b1 KB_0.out.lt)
        have BE_1 := Lib.hid (BE_0.out.trans (b1.mono BE_0.out.size))
        clear KB_0 BE_0
        have S1_0 : Hid (Sl v1 1 A1 (k + 1) (byts en)) := s1
        clear o1 f1 b1 s1
        go_wp2_with fail
        refine (D1.out _ A1 c1 S1_0.out).mono ?_
        rintro e v2 ⟨rfl, b2⟩
        have KB_2 := Lib.hid (KB_1.out.below b2 KB_1.out.lt)
        have BE_2 := Lib.hid (BE_1.out.trans (b2.mono BE_1.out.size))
        have S1_1 := Lib.hid (S1_0.out.below b2 (Nat.le_refl _))
        clear KB_1 BE_1 S1_0
        clear b2
        obtain ⟨g6, hg6⟩ : ∃ g6, g6 = v2.heap.size := ⟨_, rfl⟩
        have kz : Blk (v2.alloc (.cells #[.string ⟨#[]⟩, .string ⟨#[]⟩, .string ⟨#[]⟩, .int .i64 0, .int .i64 0, .int .i64 0, .int .u64 0] 24)) v2.heap.size 24 #[.string ⟨#[]⟩, .string ⟨#[]⟩, .string ⟨#[]⟩, .int .i64 0, .int .i64 0, .int .i64 0, .int .u64 0] := Blk.new _ _ _
        have st := store_rc (cs := #[.string r.num, .string r.game, .string r.slip, .int .i64 r.first, .int .i64 r.price, .int .i64 r.date, .int .u64 (r.sign : Int)]) kz rfl rfl rfl
        obtain ⟨W1, hW1⟩ : ∃ W1, W1 = World.setRow (v2.alloc (.cells #[.string ⟨#[]⟩, .string ⟨#[]⟩, .string ⟨#[]⟩, .int .i64 0, .int .i64 0, .int .i64 0, .int .u64 0] 24)) v2.heap.size #[.string r.num, .string r.game, .string r.slip, .int .i64 r.first, .int .i64 r.price, .int .i64 r.date, .int .u64 (r.sign : Int)] := ⟨_, rfl⟩
        have F : Below v2.heap.size v2 W1 := by rw [hW1]; exact ((Below.refl _ _).alloc (Nat.le_refl _) _).trans ((frm_setRow _ _ _).below (by simp) (fun i hi e => by omega))
        have KB_3 := Lib.hid (KB_2.out.below F KB_2.out.lt)
        have BE_3 := Lib.hid (BE_2.out.trans (F.mono BE_2.out.size))
        have S1_2 := Lib.hid (S1_1.out.below F (Nat.le_refl _))
        clear KB_2 BE_2 S1_1
        have Kg6_0 : Hid (Blk W1 g6 24 #[.string r.num, .string r.game, .string r.slip, .int .i64 r.first, .int .i64 r.price, .int .i64 r.date, .int .u64 (r.sign : Int)]) := by rw [hW1, hg6]; exact Blk_setRow kz _
        rw [← hW1] at st
        clear hW1 kz F
        have HO : Hid (∀ cs : Array Value, cs.size = 0 → (W1.alloc (.cells cs 5)).ownsRow 0 5 1 (.slice (some ⟨W1.heap.size, 0, none⟩) 0 0) 0 []) := fun cs h => World.ownsRow_made W1 cs 0 (Nat.zero_le _) (Nat.zero_le _) h
        go_wp2_with (first | (at_builtin; refine wpList_append_sl _ rfl (.tmp 37) (.tmp 38) 38 rfl 5 i0 (.int .u8 0) 1 1 Try.underlying38 hi0 hz0 hz1 hz2 rfl (by decide) (.slice (some ⟨W1.heap.size, 0, none⟩) 0 0) 0 [] rfl (HO.out _ rfl) A1 (k + 1) c1 (byts en) rfl (S1_2.out.alloc _) (byts_one _) (by unfold maxLen; omega) (by omega) ?_; intro x2 y2 hown1 hg1 hat1; have G1 := Lib.hid hown1; have G2 := Lib.hid hg1; have G3 := Lib.hid hat1; clear hown1 hg1 hat1) | (at_builtin; refine wpList_append_sl _ rfl (.tmp 40) (.tmp 42) 38 rfl 5 i0 (.int .u8 0) 1 1 Try.underlying38 hi0 hz0 hz1 hz2 rfl (by decide) x2 (0 + (k + 1)) ([] ++ byts en) rfl (G1.out.alloc _) _ 1 1 (byts [c]) rfl (one_byte _ _ _ _ rfl rfl) (byts_one _) (by unfold maxLen; omega) (by omega) ?_; intro x3 y3 hown1 hg1 hat1; have G4 := Lib.hid hown1; have G5 := Lib.hid hg1; clear hown1 hg1 hat1))
        clear st
        rw [← hg6]
        clear hg6
        have F : Below W1.heap.size W1 y3 := two_appends G2.out G3.out G5.out
        have KB_4 := Lib.hid (KB_3.out.below F KB_3.out.lt)
        have BE_4 := Lib.hid (BE_3.out.trans (F.mono BE_3.out.size))
        have S1_3 := Lib.hid (S1_2.out.below F (Nat.le_refl _))
        have Kg6_1 := Lib.hid (Kg6_0.out.below F Kg6_0.out.lt)
        clear KB_3 BE_3 S1_2 Kg6_0
        have o3 : y3.ownsRow 0 5 1 x3 (k + 2) (byts (en ++ [c])) := by
          have := G4.out
          rw [List.nil_append, ← byts_append, show 0 + (k + 1) + 1 = k + 2 from by omega] at this
          exact this
        obtain ⟨A3, c3, rfl, s3⟩ := own_form o3
        have S3 := Lib.hid s3
        clear G1 G2 G3 G4 G5 HO F o3 s3
        refine (D2.out _ A3 c3 S3.out).mono ?_
        rintro e v3 ⟨rfl, b3⟩
        have KB_5 := Lib.hid (KB_4.out.below b3 KB_4.out.lt)
        have BE_5 := Lib.hid (BE_4.out.trans (b3.mono BE_4.out.size))
        have S1_4 := Lib.hid (S1_3.out.below b3 (Nat.le_refl _))
        have Kg6_2 := Lib.hid (Kg6_1.out.below b3 Kg6_1.out.lt)
        clear KB_4 BE_4 S1_3 Kg6_1
        clear b3
        have t0 : ((k : Int) + 1 == 0) = false := by rw [beq_eq_false_iff_ne]; omega
        obtain ⟨A4, c4, hcut, hco⟩ := run_cut_to (P := Try.prog) Try.underlying38 u8_size A1 (k + 1) c1 k (by have := HC1.out; omega)
        have HCO := Lib.hid hco
        clear hco S3
        obtain ⟨g9, hg9⟩ : ∃ g9, g9 = v3.heap.size := ⟨_, rfl⟩
        have kz : Blk (v3.alloc (.cells #[.string ⟨#[]⟩, .string ⟨#[]⟩, .string ⟨#[]⟩, .int .i64 0, .int .i64 0, .int .i64 0, .int .u64 0] 24)) v3.heap.size 24 #[.string ⟨#[]⟩, .string ⟨#[]⟩, .string ⟨#[]⟩, .int .i64 0, .int .i64 0, .int .i64 0, .int .u64 0] := Blk.new _ _ _
        have st := store_rc (cs := #[.string ⟨#[]⟩, .string ⟨#[]⟩, .string ⟨#[]⟩, .int .i64 0, .int .i64 0, .int .i64 0, .int .u64 0]) kz rfl rfl rfl
        obtain ⟨W2, hW2⟩ : ∃ W2, W2 = World.setRow (v3.alloc (.cells #[.string ⟨#[]⟩, .string ⟨#[]⟩, .string ⟨#[]⟩, .int .i64 0, .int .i64 0, .int .i64 0, .int .u64 0] 24)) v3.heap.size #[.string ⟨#[]⟩, .string ⟨#[]⟩, .string ⟨#[]⟩, .int .i64 0, .int .i64 0, .int .i64 0, .int .u64 0] := ⟨_, rfl⟩
        have F : Below v3.heap.size v3 W2 := by rw [hW2]; exact ((Below.refl _ _).alloc (Nat.le_refl _) _).trans ((frm_setRow _ _ _).below (by simp) (fun i hi e => by omega))
        have KB_6 := Lib.hid (KB_5.out.below F KB_5.out.lt)
        have BE_6 := Lib.hid (BE_5.out.trans (F.mono BE_5.out.size))
        have S1_5 := Lib.hid (S1_4.out.below F (Nat.le_refl _))
        have Kg6_3 := Lib.hid (Kg6_2.out.below F Kg6_2.out.lt)
        clear KB_5 BE_5 S1_4 Kg6_2
        have Kg9_0 : Hid (Blk W2 g9 24 #[.string ⟨#[]⟩, .string ⟨#[]⟩, .string ⟨#[]⟩, .int .i64 0, .int .i64 0, .int .i64 0, .int .u64 0]) := by rw [hW2, hg9]; exact Blk_setRow kz _
        rw [← hW2] at st
        clear hW2 kz F
        go_wp2_with fail
        clear st hcut t0
        rw [← hg9]
        clear hg9
        have s4 : Sl W2 1 A4 k (byts (en.take k)) := by
          have := HCO.out.cells W2 _ S1_5.out (by omega)
          rw [Nat.zero_mul, List.drop_zero, Nat.sub_zero, Nat.mul_one] at this
          unfold byts at this ⊢
          rw [List.map_take]
          exact this
        have S4 := Lib.hid s4
        clear s4
        refine (D3.out _ A4 c4 S4.out).mono ?_
        rintro e v4 ⟨rfl, b4⟩
        have KB_7 := Lib.hid (KB_6.out.below b4 KB_6.out.lt)
        have BE_7 := Lib.hid (BE_6.out.trans (b4.mono BE_6.out.size))
        have S1_6 := Lib.hid (S1_5.out.below b4 (Nat.le_refl _))
        have Kg6_4 := Lib.hid (Kg6_3.out.below b4 Kg6_3.out.lt)
        clear KB_6 BE_6 S1_5 Kg6_3
        clear b4
        obtain ⟨g11, hg11⟩ : ∃ g11, g11 = v4.heap.size := ⟨_, rfl⟩
        have kz : Blk (v4.alloc (.cells #[.string ⟨#[]⟩, .string ⟨#[]⟩, .string ⟨#[]⟩, .int .i64 0, .int .i64 0, .int .i64 0, .int .u64 0] 24)) v4.heap.size 24 #[.string ⟨#[]⟩, .string ⟨#[]⟩, .string ⟨#[]⟩, .int .i64 0, .int .i64 0, .int .i64 0, .int .u64 0] := Blk.new _ _ _
        have st := store_rc (cs := #[.string ⟨#[]⟩, .string ⟨#[]⟩, .string ⟨#[]⟩, .int .i64 0, .int .i64 0, .int .i64 0, .int .u64 0]) kz rfl rfl rfl
        obtain ⟨W3, hW3⟩ : ∃ W3, W3 = World.setRow (v4.alloc (.cells #[.string ⟨#[]⟩, .string ⟨#[]⟩, .string ⟨#[]⟩, .int .i64 0, .int .i64 0, .int .i64 0, .int .u64 0] 24)) v4.heap.size #[.string ⟨#[]⟩, .string ⟨#[]⟩, .string ⟨#[]⟩, .int .i64 0, .int .i64 0, .int .i64 0, .int .u64 0] := ⟨_, rfl⟩
        have F : Below v4.heap.size v4 W3 := by rw [hW3]; exact ((Below.refl _ _).alloc (Nat.le_refl _) _).trans ((frm_setRow _ _ _).below (by simp) (fun i hi e => by omega))
        have KB_8 := Lib.hid (KB_7.out.below F KB_7.out.lt)
        have BE_8 := Lib.hid (BE_7.out.trans (F.mono BE_7.out.size))
        have Kg6_5 := Lib.hid (Kg6_4.out.below F Kg6_4.out.lt)
        clear KB_7 BE_7 Kg6_4
        have Kg11_0 : Hid (Blk W3 g11 24 #[.string ⟨#[]⟩, .string ⟨#[]⟩, .string ⟨#[]⟩, .int .i64 0, .int .i64 0, .int .i64 0, .int .u64 0]) := by rw [hW3, hg11]; exact Blk_setRow kz _
        rw [← hW3] at st
        clear hW3 kz F
        have la : (loadRow 24 (.pointer (some ⟨g6, 0, none⟩))).run Try.prog W3 = .ok (.agg #[.string r.num, .string r.game, .string r.slip, .int .i64 r.first, .int .i64 r.price, .int .i64 r.date, .int .u64 (r.sign : Int)]) W3 := load_rc Kg6_5.out rfl
        have lb : (loadRow 24 (.pointer (some ⟨w.heap.size, 0, none⟩))).run Try.prog W3 = .ok (.agg #[.string r.num, .string r.game, .string r.slip, .int .i64 r.first, .int .i64 r.price, .int .i64 r.date, .int .u64 (r.sign : Int)]) W3 := load_rc KB_8.out rfl
        have he := HEQ.out
        go_wp2_with fail
        clear st la lb he
        refine (awake19 _).mono ?_
        rintro e v5 ⟨rfl, b5⟩
        have KB_9 := Lib.hid (KB_8.out.below b5 KB_8.out.lt)
        have BE_9 := Lib.hid (BE_8.out.trans (b5.mono BE_8.out.size))
        have Kg6_6 := Lib.hid (Kg6_5.out.below b5 Kg6_5.out.lt)
        have Kg11_1 := Lib.hid (Kg11_0.out.below b5 Kg11_0.out.lt)
        clear KB_8 BE_8 Kg6_5 Kg11_0
        clear b5
        go_wp2_with fail
        go_ret
        exact ⟨rfl, BE_9.out⟩
      · have i2 : (2000 : Int) < ((r.slip.size : Nat) : Int) := by omega
        clear ho
        obtain ⟨W0, hW0⟩ : ∃ W0, W0 = w.alloc (.cells #[.string r.num, .string r.game, .string r.slip, .int .i64 r.first, .int .i64 r.price, .int .i64 r.date, .int .u64 (r.sign : Int)] 24) := ⟨_, rfl⟩
        have KB_0 : Hid (Blk W0 w.heap.size 24 #[.string r.num, .string r.game, .string r.slip, .int .i64 r.first, .int .i64 r.price, .int .i64 r.date, .int .u64 (r.sign : Int)]) := by rw [hW0]; exact Blk.new _ _ _
        have BE_0 : Hid (Below w.heap.size w W0) := by rw [hW0]; exact (Below.refl _ w).alloc (Nat.le_refl _) _
        have HW := Lib.hid hW0
        clear hW0
        unfold Rc.cells
        go_enter Try.func7, Try.ntmps7
        go_wp2_with fail
        rw [← HW.out]
        clear HW
        refine (awake19 _).mono ?_
        rintro e v1 ⟨rfl, b1⟩
        have KB_1 := Lib.hid (KB_0.out.below b1 KB_0.out.lt)
        have BE_1 := Lib.hid (BE_0.out.trans (b1.mono BE_0.out.size))
        clear KB_0 BE_0
        clear b1
        go_wp2_with fail
        go_ret
        exact ⟨rfl, BE_1.out⟩
    · have i1 : (24 : Int) < ((r.game.size : Nat) : Int) := by omega
      clear ho
      obtain ⟨W0, hW0⟩ : ∃ W0, W0 = w.alloc (.cells #[.string r.num, .string r.game, .string r.slip, .int .i64 r.first, .int .i64 r.price, .int .i64 r.date, .int .u64 (r.sign : Int)] 24) := ⟨_, rfl⟩
      have KB_0 : Hid (Blk W0 w.heap.size 24 #[.string r.num, .string r.game, .string r.slip, .int .i64 r.first, .int .i64 r.price, .int .i64 r.date, .int .u64 (r.sign : Int)]) := by rw [hW0]; exact Blk.new _ _ _
      have BE_0 : Hid (Below w.heap.size w W0) := by rw [hW0]; exact (Below.refl _ w).alloc (Nat.le_refl _) _
      have HW := Lib.hid hW0
      clear hW0
      unfold Rc.cells
      go_enter Try.func7, Try.ntmps7
      go_wp2_with fail
      rw [← HW.out]
      clear HW
      refine (awake19 _).mono ?_
      rintro e v1 ⟨rfl, b1⟩
      have KB_1 := Lib.hid (KB_0.out.below b1 KB_0.out.lt)
      have BE_1 := Lib.hid (BE_0.out.trans (b1.mono BE_0.out.size))
      clear KB_0 BE_0
      clear b1
      go_wp2_with fail
      go_ret
      exact ⟨rfl, BE_1.out⟩
  · have i0 : (24 : Int) < ((r.num.size : Nat) : Int) := by omega
    clear ho
    obtain ⟨W0, hW0⟩ : ∃ W0, W0 = w.alloc (.cells #[.string r.num, .string r.game, .string r.slip, .int .i64 r.first, .int .i64 r.price, .int .i64 r.date, .int .u64 (r.sign : Int)] 24) := ⟨_, rfl⟩
    have KB_0 : Hid (Blk W0 w.heap.size 24 #[.string r.num, .string r.game, .string r.slip, .int .i64 r.first, .int .i64 r.price, .int .i64 r.date, .int .u64 (r.sign : Int)]) := by rw [hW0]; exact Blk.new _ _ _
    have BE_0 : Hid (Below w.heap.size w W0) := by rw [hW0]; exact (Below.refl _ w).alloc (Nat.le_refl _) _
    have HW := Lib.hid hW0
    clear hW0
    unfold Rc.cells
    go_enter Try.func7, Try.ntmps7
    go_wp2_with fail
    rw [← HW.out]
    clear HW
    refine (awake19 _).mono ?_
    rintro e v1 ⟨rfl, b1⟩
    have KB_1 := Lib.hid (KB_0.out.below b1 KB_0.out.lt)
    have BE_1 := Lib.hid (BE_0.out.trans (b1.mono BE_0.out.size))
    clear KB_0 BE_0
    clear b1
    go_wp2_with fail
    go_ret
    exact ⟨rfl, BE_1.out⟩
end Go.Proofs.Ytjnaooiklcbemaa.Rt
