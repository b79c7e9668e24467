/-
  The walk of ReceiptDecodes. Conditions: the bytes lie in memory.
-/
import Derived.Test.YtjnaooiklcbemaaRtAwake
import Derived.Test.YtjnaooiklcbemaaReg
namespace Go.Proofs.Ytjnaooiklcbemaa.Rt
open Go.RowKit Go.Proofs.Ytjnaooiklcbemaa.Mem Go.Proofs.Ytjnaooiklcbemaa.Wr Go.Proofs.Ytjnaooiklcbemaa.Dg
attribute [local go_sem ↓] exec_load_rc exec_store_rc

theorem dec_lim {bs : List UInt8} (h : bs.length ≤ 100000) : (dec bs).lim := by
  unfold dec
  split
  · exact ⟨Nat.le_trans (rT_fine mName (st0_ok bs)).2.1 h, Nat.le_trans (rT_fine mName (q1_ok bs)).2.1 h, Nat.le_trans (rT_fine mText (q2_ok bs)).2.1 h⟩
  · exact none_lim
set_option maxRecDepth 100000 in
set_option maxHeartbeats 4000000 in
theorem decodes_walk (bs : List UInt8) (A : Option Addr) (n c : Nat) (w : World) (hs : Sl w 1 A n (byts bs)) (hn : n ≤ 9223372036854775807) :
    Calls Try.prog 6 #[.slice A n c] w fun e w' => e = .returned (.bool true) ∧ Below w.heap.size w w' := by
  by_cases z0 : n ≤ 5000
  · have i0 : ((n : Nat) : Int) ≤ 5000 := by omega
    have hbl : bs.length = n := by simpa [byts_len] using hs.1
    have hlim := dec_lim (bs := bs) (by omega)
    have hok := dec_ok bs
    have C1 : Hid (∀ W, Sl W 1 A n (byts bs) → Calls Try.prog 20 #[.slice A n c] W (Ret (.tuple #[.agg (dec bs).cells, .int .i64 (decErr bs)]) W)) := fun W hW => decode_any bs A n c W hW (by omega)
    have C2 : Hid (∀ W, Sl W 1 A n (byts bs) → Calls Try.prog 21 #[.slice A n c] W (Ret (.tuple #[.agg (dec bs).cells, .int .i64 (decErr bs)]) W)) := fun W hW => decodeR_any bs A n c W hW (by omega)
    have CE : Hid (decErr bs = 0 → ∀ W, Calls Try.prog 18 #[.agg (dec bs).cells] W (RetBytes bs W)) := fun h W => by
      have := encode_any (dec bs) W hlim hok
      rw [enc_dec h] at this
      exact this
    have HEQ : Hid (∀ W, (binOp .eql 24 (.agg (dec bs).cells) (.agg (dec bs).cells)).run Try.prog W = .ok (.bool true) W) := fun W => (run_rc_eql _ _ W).trans (by rw [(sameR_iff (dec bs) (dec bs)).2 rfl])
    have HI1 : Hid ((dec bs).cells.size = 7) := rfl
    have HI2 : Hid ((dec bs).cells.toList.all (·.oneCell') = true) := rfl
    generalize (dec bs).cells = ic at *
    generalize decErr bs = de at *
    have SB_0 : Hid (Sl w 1 A n (byts bs)) := hs
    clear hlim hok hs hbl
    have BE_0 : Hid (Below w.heap.size w w) := Below.refl _ w
    go_enter Try.func6, Try.ntmps6
    go_wp2_with fail
    refine (C1.out _ SB_0.out).mono ?_
    rintro e v1 ⟨rfl, b1⟩
    have SB_1 := Lib.hid (SB_0.out.below b1 (Nat.le_refl _))
    have BE_1 := Lib.hid (BE_0.out.trans (b1.mono BE_0.out.size))
    clear SB_0 BE_0
    clear b1
    obtain ⟨g1, hg1⟩ : ∃ g1, g1 = v1.heap.size := ⟨_, rfl⟩
    have kz : Blk (v1.alloc (.cells #[.string ⟨#[]⟩, .string ⟨#[]⟩, .string ⟨#[]⟩, .int .i64 0, .int .i64 0, .int .i64 0, .int .u64 0] 24)) v1.heap.size 24 #[.string ⟨#[]⟩, .string ⟨#[]⟩, .string ⟨#[]⟩, .int .i64 0, .int .i64 0, .int .i64 0, .int .u64 0] := Blk.new _ _ _
    have st := store_rc (cs := ic) kz rfl HI1.out HI2.out
    obtain ⟨W1, hW1⟩ : ∃ W1, W1 = World.setRow (v1.alloc (.cells #[.string ⟨#[]⟩, .string ⟨#[]⟩, .string ⟨#[]⟩, .int .i64 0, .int .i64 0, .int .i64 0, .int .u64 0] 24)) v1.heap.size ic := ⟨_, rfl⟩
    have F : Below v1.heap.size v1 W1 := by rw [hW1]; exact ((Below.refl _ _).alloc (Nat.le_refl _) _).trans ((frm_setRow _ _ _).below (by simp) (fun i hi e => by omega))
    have SB_2 := Lib.hid (SB_1.out.below F (Nat.le_refl _))
    have BE_2 := Lib.hid (BE_1.out.trans (F.mono BE_1.out.size))
    clear SB_1 BE_1
    have Kg1_0 : Hid (Blk W1 g1 24 ic) := by rw [hW1, hg1]; exact Blk_setRow kz _
    rw [← hW1] at st
    clear hW1 kz F
    go_wp2_with fail
    clear st
    rw [← hg1]
    clear hg1
    refine (C2.out _ SB_2.out).mono ?_
    rintro e v2 ⟨rfl, b2⟩
    have SB_3 := Lib.hid (SB_2.out.below b2 (Nat.le_refl _))
    have BE_3 := Lib.hid (BE_2.out.trans (b2.mono BE_2.out.size))
    have Kg1_1 := Lib.hid (Kg1_0.out.below b2 Kg1_0.out.lt)
    clear SB_2 BE_2 Kg1_0
    clear b2
    obtain ⟨g2, hg2⟩ : ∃ g2, g2 = v2.heap.size := ⟨_, rfl⟩
    have kz : Blk (v2.alloc (.cells #[.string ⟨#[]⟩, .string ⟨#[]⟩, .string ⟨#[]⟩, .int .i64 0, .int .i64 0, .int .i64 0, .int .u64 0] 24)) v2.heap.size 24 #[.string ⟨#[]⟩, .string ⟨#[]⟩, .string ⟨#[]⟩, .int .i64 0, .int .i64 0, .int .i64 0, .int .u64 0] := Blk.new _ _ _
    have st := store_rc (cs := ic) kz rfl HI1.out HI2.out
    obtain ⟨W2, hW2⟩ : ∃ W2, W2 = World.setRow (v2.alloc (.cells #[.string ⟨#[]⟩, .string ⟨#[]⟩, .string ⟨#[]⟩, .int .i64 0, .int .i64 0, .int .i64 0, .int .u64 0] 24)) v2.heap.size ic := ⟨_, rfl⟩
    have F : Below v2.heap.size v2 W2 := by rw [hW2]; exact ((Below.refl _ _).alloc (Nat.le_refl _) _).trans ((frm_setRow _ _ _).below (by simp) (fun i hi e => by omega))
    have SB_4 := Lib.hid (SB_3.out.below F (Nat.le_refl _))
    have BE_4 := Lib.hid (BE_3.out.trans (F.mono BE_3.out.size))
    have Kg1_2 := Lib.hid (Kg1_1.out.below F Kg1_1.out.lt)
    clear SB_3 BE_3 Kg1_1
    have Kg2_0 : Hid (Blk W2 g2 24 ic) := by rw [hW2, hg2]; exact Blk_setRow kz _
    rw [← hW2] at st
    clear hW2 kz F
    go_wp2_with fail
    clear st
    rw [← hg2]
    clear hg2
    by_cases he : de = 0
    · have te : (de != 0) = false := by simp [he]
      have CE2 := Lib.hid (CE.out he)
      clear he CE
      have F : Below W2.heap.size W2 W2.drew := (Below.refl _ _).drew
      have SB_5 := Lib.hid (SB_4.out.below F (Nat.le_refl _))
      have BE_5 := Lib.hid (BE_4.out.trans (F.mono BE_4.out.size))
      have Kg1_3 := Lib.hid (Kg1_2.out.below F Kg1_2.out.lt)
      have Kg2_1 := Lib.hid (Kg2_0.out.below F Kg2_0.out.lt)
      clear SB_4 BE_4 Kg1_2 Kg2_0
      clear F
      refine Reg.start (by kernel_rfl) ?_
      refine Reg.take 0 (v := ?_) rfl (by kernel_rfl) (fun _ _ _ h => h) rfl ?_ ?_
      rotate_left
      · intro W hW
        have l1 : (loadRow 24 (.pointer (some ⟨g1, 0, none⟩))).run Try.prog W = .ok (.agg ic) W := load_rc (Kg1_3.out.below hW.all Kg1_3.out.lt) HI1.out
        go_simp
        try with_reducible rfl
      try simp only [Act.put, List.setIfInBounds_toArray, List.set_cons_zero, List.set_cons_succ]
      refine Reg.take 1 (v := ?_) rfl (by kernel_rfl) (fun _ _ _ h => h) rfl ?_ ?_
      rotate_left
      · intro W hW
        have l1 : (loadRow 24 (.pointer (some ⟨g2, 0, none⟩))).run Try.prog W = .ok (.agg ic) W := load_rc (Kg2_1.out.below hW.all Kg2_1.out.lt) HI1.out
        go_simp
        try with_reducible rfl
      try simp only [Act.put, List.setIfInBounds_toArray, List.set_cons_zero, List.set_cons_succ]
      refine Reg.take 2 (v := ?_) rfl (by kernel_rfl) (fun _ _ _ h => h) rfl ?_ ?_
      rotate_left
      · intro W hW
        have he := HEQ.out
        go_simp
        try with_reducible rfl
      try simp only [Act.put, List.setIfInBounds_toArray, List.set_cons_zero, List.set_cons_succ]
      refine Reg.take 3 (v := ?_) rfl (by kernel_rfl) (fun _ _ _ h => h) rfl ?_ ?_
      rotate_left
      · intro W hW
        go_simp
        try with_reducible rfl
      try simp only [Act.put, List.setIfInBounds_toArray, List.set_cons_zero, List.set_cons_succ]
      refine Reg.take 4 (v := ?_) rfl (by kernel_rfl) (fun _ _ _ h => h) rfl ?_ ?_
      rotate_left
      · intro W hW
        go_simp
        try with_reducible rfl
      try simp only [Act.put, List.setIfInBounds_toArray, List.set_cons_zero, List.set_cons_succ]
      refine Reg.take 5 (v := ?_) rfl (by kernel_rfl) (fun _ _ _ h => h) rfl ?_ ?_
      rotate_left
      · intro W hW
        go_simp
        try with_reducible rfl
      try simp only [Act.put, List.setIfInBounds_toArray, List.set_cons_zero, List.set_cons_succ]
      refine Reg.take 6 (v := ?_) rfl (by kernel_rfl) (fun _ _ _ h => h) rfl ?_ ?_
      rotate_left
      · intro W hW
        go_simp
        try with_reducible rfl
      try simp only [Act.put, List.setIfInBounds_toArray, List.set_cons_zero, List.set_cons_succ]
      refine Reg.take 7 (v := ?_) rfl (by kernel_rfl) (fun _ _ _ h => h) rfl ?_ ?_
      rotate_left
      · intro W hW
        go_simp
        try with_reducible rfl
      try simp only [Act.put, List.setIfInBounds_toArray, List.set_cons_zero, List.set_cons_succ]
      refine Reg.take 8 (v := ?_) rfl (by kernel_rfl) (fun _ _ _ h => h) rfl ?_ ?_
      rotate_left
      · intro W hW
        go_simp
        try with_reducible rfl
      try simp only [Act.put, List.setIfInBounds_toArray, List.set_cons_zero, List.set_cons_succ]
      refine Reg.take 9 (v := ?_) rfl (by kernel_rfl) (fun _ _ _ h => h) rfl ?_ ?_
      rotate_left
      · intro W hW
        go_simp
        try with_reducible rfl
      try simp only [Act.put, List.setIfInBounds_toArray, List.set_cons_zero, List.set_cons_succ]
      refine Reg.take 10 (v := ?_) rfl (by kernel_rfl) (fun _ _ _ h => h) rfl ?_ ?_
      rotate_left
      · intro W hW
        go_simp
        try with_reducible rfl
      try simp only [Act.put, List.setIfInBounds_toArray, List.set_cons_zero, List.set_cons_succ]
      refine Reg.take 11 (v := ?_) rfl (by kernel_rfl) (fun _ _ _ h => h) rfl ?_ ?_
      rotate_left
      · intro W hW
        go_simp
        try with_reducible rfl
      try simp only [Act.put, List.setIfInBounds_toArray, List.set_cons_zero, List.set_cons_succ]
      refine Reg.take 12 (v := ?_) rfl (by kernel_rfl) (fun _ _ _ h => h) rfl ?_ ?_
      rotate_left
      · intro W hW
        have l1 : (loadRow 24 (.pointer (some ⟨g1, 0, none⟩))).run Try.prog W = .ok (.agg ic) W := load_rc (Kg1_3.out.below hW.all Kg1_3.out.lt) HI1.out
        go_simp
        try with_reducible rfl
      try simp only [Act.put, List.setIfInBounds_toArray, List.set_cons_zero, List.set_cons_succ]
      refine Reg.take 15 (v := ?_) rfl (by kernel_rfl) (fun _ _ _ h => h) rfl ?_ ?_
      rotate_left
      · intro W hW
        go_simp
        try with_reducible rfl
      try simp only [Act.put, List.setIfInBounds_toArray, List.set_cons_zero, List.set_cons_succ]
      refine Reg.take 16 (v := ?_) rfl (by kernel_rfl) (fun _ _ _ h => h) rfl ?_ ?_
      rotate_left
      · intro W hW
        have cv := run_string_sl (P := Try.prog) (w := W) 38 9 5 Try.underlying38 Try.underlying5 Try.underlying9 (SB_5.out.below hW.all (Nat.le_refl _)) c
        go_simp
        try with_reducible rfl
      try simp only [Act.put, List.setIfInBounds_toArray, List.set_cons_zero, List.set_cons_succ]
      refine Reg.do_ 13 rfl (by kernel_rfl) rfl (fun K hK => ?_)
      go_simp
      refine (CE2.out _).mono ?_
      rintro e v3 ⟨xS1, rfl, oS1, fS1, b3⟩
      have SB_6 := Lib.hid (SB_5.out.below b3 (Nat.le_refl _))
      have BE_6 := Lib.hid (BE_5.out.trans (b3.mono BE_5.out.size))
      have Kg1_4 := Lib.hid (Kg1_3.out.below b3 Kg1_3.out.lt)
      have Kg2_2 := Lib.hid (Kg2_1.out.below b3 Kg2_1.out.lt)
      clear SB_5 BE_5 Kg1_3 Kg2_1
      obtain ⟨AS1, cS1, rfl, sS1⟩ := own_form oS1
      have S1_0 := Lib.hid sS1
      clear oS1 fS1 sS1
      refine hK.out _ _ b3 ?_
      clear hK K b3
      try simp only [Act.put, List.setIfInBounds_toArray, List.set_cons_zero, List.set_cons_succ]
      refine Reg.take 14 (v := ?_) rfl (by kernel_rfl) (fun _ _ _ h => h) rfl ?_ ?_
      rotate_left
      · intro W hW
        have cv := run_string_sl (P := Try.prog) (w := W) 38 9 5 Try.underlying38 Try.underlying5 Try.underlying9 (S1_0.out.below hW.all (Nat.le_refl _)) cS1
        go_simp
        try with_reducible rfl
      try simp only [Act.put, List.setIfInBounds_toArray, List.set_cons_zero, List.set_cons_succ]
      refine Reg.take 17 (v := ?_) rfl (by kernel_rfl) (fun _ _ _ h => h) rfl ?_ ?_
      rotate_left
      · intro W hW
        go_simp
        try with_reducible rfl
      try simp only [Act.put, List.setIfInBounds_toArray, List.set_cons_zero, List.set_cons_succ]
      refine Reg.take 18 (v := ?_) rfl (by kernel_rfl) (fun _ _ _ h => h) rfl ?_ ?_
      rotate_left
      · intro W hW
        go_simp
        try with_reducible rfl
      try simp only [Act.put, List.setIfInBounds_toArray, List.set_cons_zero, List.set_cons_succ]
      refine Reg.take 19 (v := ?_) rfl (by kernel_rfl) (fun _ _ _ h => h) rfl ?_ ?_
      rotate_left
      · intro W hW
        go_simp
        try with_reducible rfl
      try simp only [Act.put, List.setIfInBounds_toArray, List.set_cons_zero, List.set_cons_succ]
      refine Reg.take 20 (v := ?_) rfl (by kernel_rfl) (fun _ _ _ h => h) rfl ?_ ?_
      rotate_left
      · intro W hW
        go_simp
        try with_reducible rfl
      try simp only [Act.put, List.setIfInBounds_toArray, List.set_cons_zero, List.set_cons_succ]
      refine Reg.do_ 21 rfl (by kernel_rfl) rfl (fun K hK => ?_)
      go_simp
      refine (awake19 _).mono ?_
      rintro e v4 ⟨rfl, b4⟩
      have SB_7 := Lib.hid (SB_6.out.below b4 (Nat.le_refl _))
      have BE_7 := Lib.hid (BE_6.out.trans (b4.mono BE_6.out.size))
      have Kg1_5 := Lib.hid (Kg1_4.out.below b4 Kg1_4.out.lt)
      have Kg2_3 := Lib.hid (Kg2_2.out.below b4 Kg2_2.out.lt)
      have S1_1 := Lib.hid (S1_0.out.below b4 (Nat.le_refl _))
      clear SB_6 BE_6 Kg1_4 Kg2_2 S1_0
      refine hK.out _ _ b4 ?_
      clear hK K b4
      try simp only [Act.put, List.setIfInBounds_toArray, List.set_cons_zero, List.set_cons_succ]
      refine Reg.take 22 (v := ?_) rfl (by kernel_rfl) (fun _ _ _ h => h) rfl ?_ ?_
      rotate_left
      · intro W hW
        go_simp
        try with_reducible rfl
      try simp only [Act.put, List.setIfInBounds_toArray, List.set_cons_zero, List.set_cons_succ]
      refine Reg.take 23 (v := ?_) rfl (by kernel_rfl) (fun _ _ _ h => h) rfl ?_ ?_
      rotate_left
      · intro W hW
        go_simp
        try with_reducible rfl
      try simp only [Act.put, List.setIfInBounds_toArray, List.set_cons_zero, List.set_cons_succ]
      refine Reg.done (by kernel_rfl) ?_
      go_wp2_with fail
      go_ret
      exact ⟨rfl, BE_7.out⟩
    · have te : (de != 0) = true := by simp [he]
      clear he CE
      have F : Below W2.heap.size W2 W2.drew := (Below.refl _ _).drew
      have SB_5 := Lib.hid (SB_4.out.below F (Nat.le_refl _))
      have BE_5 := Lib.hid (BE_4.out.trans (F.mono BE_4.out.size))
      have Kg1_3 := Lib.hid (Kg1_2.out.below F Kg1_2.out.lt)
      have Kg2_1 := Lib.hid (Kg2_0.out.below F Kg2_0.out.lt)
      clear SB_4 BE_4 Kg1_2 Kg2_0
      clear F
      refine Reg.start (by kernel_rfl) ?_
      refine Reg.take 0 (v := ?_) rfl (by kernel_rfl) (fun _ _ _ h => h) rfl ?_ ?_
      rotate_left
      · intro W hW
        have l1 : (loadRow 24 (.pointer (some ⟨g1, 0, none⟩))).run Try.prog W = .ok (.agg ic) W := load_rc (Kg1_3.out.below hW.all Kg1_3.out.lt) HI1.out
        go_simp
        try with_reducible rfl
      try simp only [Act.put, List.setIfInBounds_toArray, List.set_cons_zero, List.set_cons_succ]
      refine Reg.take 1 (v := ?_) rfl (by kernel_rfl) (fun _ _ _ h => h) rfl ?_ ?_
      rotate_left
      · intro W hW
        have l1 : (loadRow 24 (.pointer (some ⟨g2, 0, none⟩))).run Try.prog W = .ok (.agg ic) W := load_rc (Kg2_1.out.below hW.all Kg2_1.out.lt) HI1.out
        go_simp
        try with_reducible rfl
      try simp only [Act.put, List.setIfInBounds_toArray, List.set_cons_zero, List.set_cons_succ]
      refine Reg.take 2 (v := ?_) rfl (by kernel_rfl) (fun _ _ _ h => h) rfl ?_ ?_
      rotate_left
      · intro W hW
        have he := HEQ.out
        go_simp
        try with_reducible rfl
      try simp only [Act.put, List.setIfInBounds_toArray, List.set_cons_zero, List.set_cons_succ]
      refine Reg.take 3 (v := ?_) rfl (by kernel_rfl) (fun _ _ _ h => h) rfl ?_ ?_
      rotate_left
      · intro W hW
        go_simp
        try with_reducible rfl
      try simp only [Act.put, List.setIfInBounds_toArray, List.set_cons_zero, List.set_cons_succ]
      refine Reg.take 4 (v := ?_) rfl (by kernel_rfl) (fun _ _ _ h => h) rfl ?_ ?_
      rotate_left
      · intro W hW
        go_simp
        try with_reducible rfl
      try simp only [Act.put, List.setIfInBounds_toArray, List.set_cons_zero, List.set_cons_succ]
      refine Reg.take 5 (v := ?_) rfl (by kernel_rfl) (fun _ _ _ h => h) rfl ?_ ?_
      rotate_left
      · intro W hW
        go_simp
        try with_reducible rfl
      try simp only [Act.put, List.setIfInBounds_toArray, List.set_cons_zero, List.set_cons_succ]
      refine Reg.take 6 (v := ?_) rfl (by kernel_rfl) (fun _ _ _ h => h) rfl ?_ ?_
      rotate_left
      · intro W hW
        go_simp
        try with_reducible rfl
      try simp only [Act.put, List.setIfInBounds_toArray, List.set_cons_zero, List.set_cons_succ]
      refine Reg.take 7 (v := ?_) rfl (by kernel_rfl) (fun _ _ _ h => h) rfl ?_ ?_
      rotate_left
      · intro W hW
        go_simp
        try with_reducible rfl
      try simp only [Act.put, List.setIfInBounds_toArray, List.set_cons_zero, List.set_cons_succ]
      refine Reg.take 8 (v := ?_) rfl (by kernel_rfl) (fun _ _ _ h => h) rfl ?_ ?_
      rotate_left
      · intro W hW
        go_simp
        try with_reducible rfl
      try simp only [Act.put, List.setIfInBounds_toArray, List.set_cons_zero, List.set_cons_succ]
      refine Reg.take 9 (v := ?_) rfl (by kernel_rfl) (fun _ _ _ h => h) rfl ?_ ?_
      rotate_left
      · intro W hW
        go_simp
        try with_reducible rfl
      try simp only [Act.put, List.setIfInBounds_toArray, List.set_cons_zero, List.set_cons_succ]
      refine Reg.take 10 (v := ?_) rfl (by kernel_rfl) (fun _ _ _ h => h) rfl ?_ ?_
      rotate_left
      · intro W hW
        go_simp
        try with_reducible rfl
      try simp only [Act.put, List.setIfInBounds_toArray, List.set_cons_zero, List.set_cons_succ]
      refine Reg.take 11 (v := ?_) rfl (by kernel_rfl) (fun _ _ _ h => h) rfl ?_ ?_
      rotate_left
      · intro W hW
        go_simp
        try with_reducible rfl
      try simp only [Act.put, List.setIfInBounds_toArray, List.set_cons_zero, List.set_cons_succ]
      refine Reg.skip 12 rfl (by kernel_rfl) (fun _ _ _ h => h) rfl ?_
      try simp only [Act.put, List.setIfInBounds_toArray, List.set_cons_zero, List.set_cons_succ]
      refine Reg.skip 13 rfl (by kernel_rfl) (fun _ _ _ h => h) rfl ?_
      try simp only [Act.put, List.setIfInBounds_toArray, List.set_cons_zero, List.set_cons_succ]
      refine Reg.skip 14 rfl (by kernel_rfl) (fun _ _ _ h => h) rfl ?_
      try simp only [Act.put, List.setIfInBounds_toArray, List.set_cons_zero, List.set_cons_succ]
      refine Reg.skip 15 rfl (by kernel_rfl) (fun _ _ _ h => h) rfl ?_
      try simp only [Act.put, List.setIfInBounds_toArray, List.set_cons_zero, List.set_cons_succ]
      refine Reg.skip 16 rfl (by kernel_rfl) (fun _ _ _ h => h) rfl ?_
      try simp only [Act.put, List.setIfInBounds_toArray, List.set_cons_zero, List.set_cons_succ]
      refine Reg.skip 17 rfl (by kernel_rfl) (fun _ _ _ h => h) rfl ?_
      try simp only [Act.put, List.setIfInBounds_toArray, List.set_cons_zero, List.set_cons_succ]
      refine Reg.take 18 (v := ?_) rfl (by kernel_rfl) (fun _ _ _ h => h) rfl ?_ ?_
      rotate_left
      · intro W hW
        go_simp
        try with_reducible rfl
      try simp only [Act.put, List.setIfInBounds_toArray, List.set_cons_zero, List.set_cons_succ]
      refine Reg.take 19 (v := ?_) rfl (by kernel_rfl) (fun _ _ _ h => h) rfl ?_ ?_
      rotate_left
      · intro W hW
        go_simp
        try with_reducible rfl
      try simp only [Act.put, List.setIfInBounds_toArray, List.set_cons_zero, List.set_cons_succ]
      refine Reg.take 20 (v := ?_) rfl (by kernel_rfl) (fun _ _ _ h => h) rfl ?_ ?_
      rotate_left
      · intro W hW
        go_simp
        try with_reducible rfl
      try simp only [Act.put, List.setIfInBounds_toArray, List.set_cons_zero, List.set_cons_succ]
      refine Reg.do_ 21 rfl (by kernel_rfl) rfl (fun K hK => ?_)
      go_simp
      refine (awake19 _).mono ?_
      rintro e v3 ⟨rfl, b3⟩
      have SB_6 := Lib.hid (SB_5.out.below b3 (Nat.le_refl _))
      have BE_6 := Lib.hid (BE_5.out.trans (b3.mono BE_5.out.size))
      have Kg1_4 := Lib.hid (Kg1_3.out.below b3 Kg1_3.out.lt)
      have Kg2_2 := Lib.hid (Kg2_1.out.below b3 Kg2_1.out.lt)
      clear SB_5 BE_5 Kg1_3 Kg2_1
      refine hK.out _ _ b3 ?_
      clear hK K b3
      try simp only [Act.put, List.setIfInBounds_toArray, List.set_cons_zero, List.set_cons_succ]
      refine Reg.take 22 (v := ?_) rfl (by kernel_rfl) (fun _ _ _ h => h) rfl ?_ ?_
      rotate_left
      · intro W hW
        go_simp
        try with_reducible rfl
      try simp only [Act.put, List.setIfInBounds_toArray, List.set_cons_zero, List.set_cons_succ]
      refine Reg.take 23 (v := ?_) rfl (by kernel_rfl) (fun _ _ _ h => h) rfl ?_ ?_
      rotate_left
      · intro W hW
        go_simp
        try with_reducible rfl
      try simp only [Act.put, List.setIfInBounds_toArray, List.set_cons_zero, List.set_cons_succ]
      refine Reg.done (by kernel_rfl) ?_
      go_wp2_with fail
      go_ret
      exact ⟨rfl, BE_6.out⟩
  · have i0 : (5000 : Int) < ((n : Nat) : Int) := by omega
    clear hs
    have BE_0 : Hid (Below w.heap.size w w) := Below.refl _ w
    go_enter Try.func6, Try.ntmps6
    go_wp2_with fail
    refine (awake19 _).mono ?_
    rintro e v1 ⟨rfl, b1⟩
    have BE_1 := Lib.hid (BE_0.out.trans (b1.mono BE_0.out.size))
    clear BE_0
    clear b1
    go_wp2_with fail
    go_ret
    exact ⟨rfl, BE_1.out⟩
end Go.Proofs.Ytjnaooiklcbemaa.Rt
