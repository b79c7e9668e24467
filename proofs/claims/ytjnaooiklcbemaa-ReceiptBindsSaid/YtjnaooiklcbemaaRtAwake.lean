/-
  The examples of chapter 19 hold ('awake'): the walk. No conditions.
-/
import Derived.Test.YtjnaooiklcbemaaRtP2
import Derived.Test.YtjnaooiklcbemaaRtW4
import Derived.Test.YtjnaooiklcbemaaReg
namespace Go.Proofs.Ytjnaooiklcbemaa.Rt
open Go.RowKit Go.Proofs.Ytjnaooiklcbemaa.Mem Go.Proofs.Ytjnaooiklcbemaa.Wr Go.Proofs.Ytjnaooiklcbemaa.Dg
attribute [local go_sem ↓] exec_load_rc exec_store_rc
theorem i64_s {x : Int} (h1 : -9223372036854775808 ≤ x) (h2 : x ≤ 9223372036854775807) : i64 x := ⟨h1, h2⟩
theorem mk8 (W : World) : (Instr.makeSlice 38 (.int .i64 8) (.int .i64 8)).run Try.prog W = .ok (.slice (some ⟨W.heap.size, 0, none⟩) 8 8) (W.alloc (.cells #[.int .u8 0, .int .u8 0, .int .u8 0, .int .u8 0, .int .u8 0, .int .u8 0, .int .u8 0, .int .u8 0] 5)) := by kernel_rfl
theorem mk7 (W : World) : (Instr.makeSlice 38 (.int .i64 7) (.int .i64 7)).run Try.prog W = .ok (.slice (some ⟨W.heap.size, 0, none⟩) 7 7) (W.alloc (.cells #[.int .u8 0, .int .u8 0, .int .u8 0, .int .u8 0, .int .u8 0, .int .u8 0, .int .u8 0] 5)) := by kernel_rfl
theorem row_byts (w : World) (xs : List UInt8) (t : TypeId) (n g : Nat) (hn : xs.length = n) (hg : g = w.heap.size) : Sl (w.alloc (.cells (byts xs).toArray t)) 1 (some ⟨g, 0, none⟩) n (byts xs) :=
  ⟨by rw [byts_len, hn, Nat.mul_one], fun _ => ⟨g, 0, rfl, fun j u hu => by rw [hg, World.cell?_alloc_mark]; simpa using hu⟩⟩
set_option maxRecDepth 100000 in
set_option maxHeartbeats 4000000 in
theorem awake19 (w : World) : Calls Try.prog 11 #[] w fun e w' => e = .returned (.bool true) ∧ Below w.heap.size w w' := by
  have HBL : Hid (bare ⟨#[48, 49, 48, 48, 48, 48, 48, 48, 48, 49, 48, 48, 48, 48]⟩ ⟨#[108, 111, 116, 116, 111]⟩ ⟨#[49, 32, 50]⟩ 3 100 50).lim := ⟨by decide, by decide, by decide⟩
  have HBO : Hid (bare ⟨#[48, 49, 48, 48, 48, 48, 48, 48, 48, 49, 48, 48, 48, 48]⟩ ⟨#[108, 111, 116, 116, 111]⟩ ⟨#[49, 32, 50]⟩ 3 100 50).ok := ⟨show i64 3 from i64_s (by omega) (by omega), show i64 100 from i64_s (by omega) (by omega), show i64 50 from i64_s (by omega) (by omega), by show 0 < _; omega⟩
  have U7 : U64 7 := by unfold U64; omega
  have U8 : U64 8 := by unfold U64; omega
  have HV7 : Hid (verI 7 (issued 7 ⟨#[48, 49, 48, 48, 48, 48, 48, 48, 48, 49, 48, 48, 48, 48]⟩ ⟨#[108, 111, 116, 116, 111]⟩ ⟨#[49, 32, 50]⟩ 3 100 50) = 0) := by show _ = _; rw [ver_issued U7 U7]; rfl
  have HV8 : Hid (verI 8 (issued 7 ⟨#[48, 49, 48, 48, 48, 48, 48, 48, 48, 49, 48, 48, 48, 48]⟩ ⟨#[108, 111, 116, 116, 111]⟩ ⟨#[49, 32, 50]⟩ 3 100 50) = 15) := by show _ = _; rw [ver_issued U7 U8]; rfl
  have CI : Hid (∀ W, Calls Try.prog 16 #[.int .u64 7, .agg #[.string ⟨#[48, 49, 48, 48, 48, 48, 48, 48, 48, 49, 48, 48, 48, 48]⟩, .string ⟨#[108, 111, 116, 116, 111]⟩, .slice none 0 0, .bool false, .int .i64 0, .int .i64 0, .string ⟨#[]⟩, .int .i64 3, .int .i64 100, .int .i64 50, .int .i64 0, .int .i64 0, .int .i64 0, .bool false], .string ⟨#[49, 32, 50]⟩] W (Ret (.agg (issued 7 ⟨#[48, 49, 48, 48, 48, 48, 48, 48, 48, 49, 48, 48, 48, 48]⟩ ⟨#[108, 111, 116, 116, 111]⟩ ⟨#[49, 32, 50]⟩ 3 100 50).cells) W)) := fun W => issue_any 7 ⟨#[48, 49, 48, 48, 48, 48, 48, 48, 48, 49, 48, 48, 48, 48]⟩ ⟨#[108, 111, 116, 116, 111]⟩ ⟨#[49, 32, 50]⟩ 3 100 50 _ W U7 ⟨_, _, _, _, _, _, _, _, _, rfl⟩ HBL.out HBO.out
  have CE : Hid (∀ W, Calls Try.prog 18 #[.agg #[.string ⟨#[]⟩, .string ⟨#[]⟩, .string ⟨#[]⟩, .int .i64 0, .int .i64 0, .int .i64 0, .int .u64 0]] W (RetBytes [0, 0, 0, 0, 0, 0, 0] W)) := fun W => by
    have := encode_any none_ W none_lim none_ok
    rw [none_enc] at this
    exact this
  have CV7 : Hid (∀ W, Calls Try.prog 14 #[.int .u64 7, .agg (issued 7 ⟨#[48, 49, 48, 48, 48, 48, 48, 48, 48, 49, 48, 48, 48, 48]⟩ ⟨#[108, 111, 116, 116, 111]⟩ ⟨#[49, 32, 50]⟩ 3 100 50).cells] W (Ret (.int .i64 0) W)) := fun W => by
    have := verify_any 7 (issued 7 ⟨#[48, 49, 48, 48, 48, 48, 48, 48, 48, 49, 48, 48, 48, 48]⟩ ⟨#[108, 111, 116, 116, 111]⟩ ⟨#[49, 32, 50]⟩ 3 100 50) W U7 (issued_lim HBL.out) (issued_ok HBO.out)
    rwa [HV7.out] at this
  have CV8 : Hid (∀ W, Calls Try.prog 14 #[.int .u64 8, .agg (issued 7 ⟨#[48, 49, 48, 48, 48, 48, 48, 48, 48, 49, 48, 48, 48, 48]⟩ ⟨#[108, 111, 116, 116, 111]⟩ ⟨#[49, 32, 50]⟩ 3 100 50).cells] W (Ret (.int .i64 15) W)) := fun W => by
    have := verify_any 8 (issued 7 ⟨#[48, 49, 48, 48, 48, 48, 48, 48, 48, 49, 48, 48, 48, 48]⟩ ⟨#[108, 111, 116, 116, 111]⟩ ⟨#[49, 32, 50]⟩ 3 100 50) W U8 (issued_lim HBL.out) (issued_ok HBO.out)
    rwa [HV8.out] at this
  have CD0 : Hid (∀ W A c, Sl W 1 A 7 (byts [0, 0, 0, 0, 0, 0, 0]) → Calls Try.prog 20 #[.slice A 7 c] W (Ret (.tuple #[.agg #[.string ⟨#[]⟩, .string ⟨#[]⟩, .string ⟨#[]⟩, .int .i64 0, .int .i64 0, .int .i64 0, .int .u64 0], .int .i64 0]) W)) := fun W A c hs => (decode_any _ A 7 c W hs (by omega)).mono fun e w' ⟨he, hb⟩ => ⟨by rw [he, dec_zeros.1, dec_zeros.2]; rfl, hb⟩
  have CDn : Hid (∀ W, Calls Try.prog 20 #[.slice none 0 0] W (Ret (.tuple #[.agg #[.string ⟨#[]⟩, .string ⟨#[]⟩, .string ⟨#[]⟩, .int .i64 0, .int .i64 0, .int .i64 0, .int .u64 0], .int .i64 28]) W)) := fun W => (decode_any [] none 0 0 W (Sl.nil_ _ _ _) (by omega)).mono fun e w' ⟨he, hb⟩ => ⟨by rw [he, dec_nil]; unfold dec; rw [dec_nil]; rfl, hb⟩
  have CD8 : Hid (∀ W A c, Sl W 1 A 8 (byts [0, 0, 0, 0, 0, 0, 0, 0]) → Calls Try.prog 20 #[.slice A 8 c] W (Ret (.tuple #[.agg #[.string ⟨#[]⟩, .string ⟨#[]⟩, .string ⟨#[]⟩, .int .i64 0, .int .i64 0, .int .i64 0, .int .u64 0], .int .i64 1]) W)) := fun W A c hs => (decode_any _ A 8 c W hs (by omega)).mono fun e w' ⟨he, hb⟩ => ⟨by rw [he, dec_zeros8]; unfold dec; rw [dec_zeros8]; rfl, hb⟩
  have HEQ : Hid (∀ W, (binOp .eql 24 (.agg #[.string ⟨#[]⟩, .string ⟨#[]⟩, .string ⟨#[]⟩, .int .i64 0, .int .i64 0, .int .i64 0, .int .u64 0]) (.agg #[.string ⟨#[]⟩, .string ⟨#[]⟩, .string ⟨#[]⟩, .int .i64 0, .int .i64 0, .int .i64 0, .int .u64 0])).run Try.prog W = .ok (.bool true) W) := fun W => (run_rc_eql none_ none_ W).trans (by rw [(sameR_iff none_ none_).2 rfl])
  have HIC : Hid ((issued 7 ⟨#[48, 49, 48, 48, 48, 48, 48, 48, 48, 49, 48, 48, 48, 48]⟩ ⟨#[108, 111, 116, 116, 111]⟩ ⟨#[49, 32, 50]⟩ 3 100 50).cells = #[.string ⟨#[48, 49, 48, 48, 48, 48, 48, 48, 48, 49, 48, 48, 48, 48]⟩, .string ⟨#[108, 111, 116, 116, 111]⟩, .string ⟨#[49, 32, 50]⟩, .int .i64 3, .int .i64 100, .int .i64 50, .int .u64 ((issued 7 ⟨#[48, 49, 48, 48, 48, 48, 48, 48, 48, 49, 48, 48, 48, 48]⟩ ⟨#[108, 111, 116, 116, 111]⟩ ⟨#[49, 32, 50]⟩ 3 100 50).sign : Int)]) := rfl
  have HI1 : Hid ((issued 7 ⟨#[48, 49, 48, 48, 48, 48, 48, 48, 48, 49, 48, 48, 48, 48]⟩ ⟨#[108, 111, 116, 116, 111]⟩ ⟨#[49, 32, 50]⟩ 3 100 50).cells.size = 7) := rfl
  have HI2 : Hid ((issued 7 ⟨#[48, 49, 48, 48, 48, 48, 48, 48, 48, 49, 48, 48, 48, 48]⟩ ⟨#[108, 111, 116, 116, 111]⟩ ⟨#[49, 32, 50]⟩ 3 100 50).cells.toList.all (·.oneCell') = true) := rfl
  generalize (issued 7 ⟨#[48, 49, 48, 48, 48, 48, 48, 48, 48, 49, 48, 48, 48, 48]⟩ ⟨#[108, 111, 116, 116, 111]⟩ ⟨#[49, 32, 50]⟩ 3 100 50).cells = ic at *
  generalize ((issued 7 ⟨#[48, 49, 48, 48, 48, 48, 48, 48, 48, 49, 48, 48, 48, 48]⟩ ⟨#[108, 111, 116, 116, 111]⟩ ⟨#[49, 32, 50]⟩ 3 100 50).sign : Int) = isg at *
  clear HBL HBO HV7 HV8 U7 U8
  go_enter Try.func11, Try.ntmps11
  go_wp2_with fail
  refine (CI.out _).mono ?_
  rintro e w1 ⟨rfl, b1⟩
  have BE_0 := Lib.hid (b1)
  clear b1
  obtain ⟨g1, hg1⟩ : ∃ g1, g1 = w1.heap.size := ⟨_, rfl⟩
  have kz : Blk (w1.alloc (.cells #[.string ⟨#[]⟩, .string ⟨#[]⟩, .string ⟨#[]⟩, .int .i64 0, .int .i64 0, .int .i64 0, .int .u64 0] 24)) w1.heap.size 24 #[.string ⟨#[]⟩, .string ⟨#[]⟩, .string ⟨#[]⟩, .int .i64 0, .int .i64 0, .int .i64 0, .int .u64 0] := Blk.new _ _ _
  have st := store_rc (cs := ic) kz rfl HI1.out HI2.out
  obtain ⟨W1, hW1⟩ : ∃ W1, W1 = World.setRow (w1.alloc (.cells #[.string ⟨#[]⟩, .string ⟨#[]⟩, .string ⟨#[]⟩, .int .i64 0, .int .i64 0, .int .i64 0, .int .u64 0] 24)) w1.heap.size ic := ⟨_, rfl⟩
  have F : Below w1.heap.size w1 W1 := by rw [hW1]; exact ((Below.refl _ _).alloc (Nat.le_refl _) _).trans ((frm_setRow _ _ _).below (by simp) (fun i hi e => by omega))
  have BE_1 := Lib.hid (BE_0.out.trans (F.mono BE_0.out.size))
  clear BE_0
  have Kg1_0 : Hid (Blk W1 g1 24 ic) := by rw [hW1, hg1]; exact Blk_setRow kz _
  rw [← hW1] at st
  clear hW1 kz F
  go_wp2_with fail
  clear st
  rw [← hg1]
  clear hg1
  refine (CE.out _).mono ?_
  rintro e w2 ⟨v2, rfl, o2, f2, b2⟩
  obtain ⟨A2, c2, rfl, s2⟩ := own_form o2
  have BE_2 := Lib.hid (BE_1.out.trans (b2.mono BE_1.out.size))
  have Kg1_1 := Lib.hid (Kg1_0.out.below b2 Kg1_0.out.lt)
  clear BE_1 Kg1_0
  have S2_0 : Hid (Sl w2 1 A2 7 (byts [0, 0, 0, 0, 0, 0, 0])) := s2
  clear o2 f2 b2 s2
  go_wp2_with fail
  refine (CD0.out _ A2 c2 S2_0.out).mono ?_
  rintro e w3 ⟨rfl, b3⟩
  have BE_3 := Lib.hid (BE_2.out.trans (b3.mono BE_2.out.size))
  have Kg1_2 := Lib.hid (Kg1_1.out.below b3 Kg1_1.out.lt)
  have S2_1 := Lib.hid (S2_0.out.below b3 (Nat.le_refl _))
  clear BE_2 Kg1_1 S2_0
  clear b3
  obtain ⟨g3, hg3⟩ : ∃ g3, g3 = w3.heap.size := ⟨_, rfl⟩
  have kz : Blk (w3.alloc (.cells #[.string ⟨#[]⟩, .string ⟨#[]⟩, .string ⟨#[]⟩, .int .i64 0, .int .i64 0, .int .i64 0, .int .u64 0] 24)) w3.heap.size 24 #[.string ⟨#[]⟩, .string ⟨#[]⟩, .string ⟨#[]⟩, .int .i64 0, .int .i64 0, .int .i64 0, .int .u64 0] := Blk.new _ _ _
  have st := store_rc (cs := #[.string ⟨#[]⟩, .string ⟨#[]⟩, .string ⟨#[]⟩, .int .i64 0, .int .i64 0, .int .i64 0, .int .u64 0]) kz rfl rfl rfl
  obtain ⟨W3, hW3⟩ : ∃ W3, W3 = World.setRow (w3.alloc (.cells #[.string ⟨#[]⟩, .string ⟨#[]⟩, .string ⟨#[]⟩, .int .i64 0, .int .i64 0, .int .i64 0, .int .u64 0] 24)) w3.heap.size #[.string ⟨#[]⟩, .string ⟨#[]⟩, .string ⟨#[]⟩, .int .i64 0, .int .i64 0, .int .i64 0, .int .u64 0] := ⟨_, rfl⟩
  have F : Below w3.heap.size w3 W3 := by rw [hW3]; exact ((Below.refl _ _).alloc (Nat.le_refl _) _).trans ((frm_setRow _ _ _).below (by simp) (fun i hi e => by omega))
  have BE_4 := Lib.hid (BE_3.out.trans (F.mono BE_3.out.size))
  have Kg1_3 := Lib.hid (Kg1_2.out.below F Kg1_2.out.lt)
  have S2_2 := Lib.hid (S2_1.out.below F (Nat.le_refl _))
  clear BE_3 Kg1_2 S2_1
  have Kg3_0 : Hid (Blk W3 g3 24 #[.string ⟨#[]⟩, .string ⟨#[]⟩, .string ⟨#[]⟩, .int .i64 0, .int .i64 0, .int .i64 0, .int .u64 0]) := by rw [hW3, hg3]; exact Blk_setRow kz _
  rw [← hW3] at st
  clear hW3 kz F
  go_wp2_with fail
  clear st
  rw [← hg3]
  clear hg3
  refine (CDn.out _).mono ?_
  rintro e w4 ⟨rfl, b4⟩
  have BE_5 := Lib.hid (BE_4.out.trans (b4.mono BE_4.out.size))
  have Kg1_4 := Lib.hid (Kg1_3.out.below b4 Kg1_3.out.lt)
  have S2_3 := Lib.hid (S2_2.out.below b4 (Nat.le_refl _))
  have Kg3_1 := Lib.hid (Kg3_0.out.below b4 Kg3_0.out.lt)
  clear BE_4 Kg1_3 S2_2 Kg3_0
  clear b4
  have hmk := mk8
  obtain ⟨g4, hg4⟩ : ∃ g4, g4 = w4.heap.size := ⟨_, rfl⟩
  have kz : Blk (w4.alloc (.cells #[.string ⟨#[]⟩, .string ⟨#[]⟩, .string ⟨#[]⟩, .int .i64 0, .int .i64 0, .int .i64 0, .int .u64 0] 24)) w4.heap.size 24 #[.string ⟨#[]⟩, .string ⟨#[]⟩, .string ⟨#[]⟩, .int .i64 0, .int .i64 0, .int .i64 0, .int .u64 0] := Blk.new _ _ _
  have st := store_rc (cs := #[.string ⟨#[]⟩, .string ⟨#[]⟩, .string ⟨#[]⟩, .int .i64 0, .int .i64 0, .int .i64 0, .int .u64 0]) kz rfl rfl rfl
  obtain ⟨W4, hW4⟩ : ∃ W4, W4 = World.setRow (w4.alloc (.cells #[.string ⟨#[]⟩, .string ⟨#[]⟩, .string ⟨#[]⟩, .int .i64 0, .int .i64 0, .int .i64 0, .int .u64 0] 24)) w4.heap.size #[.string ⟨#[]⟩, .string ⟨#[]⟩, .string ⟨#[]⟩, .int .i64 0, .int .i64 0, .int .i64 0, .int .u64 0] := ⟨_, rfl⟩
  have F : Below w4.heap.size w4 W4 := by rw [hW4]; exact ((Below.refl _ _).alloc (Nat.le_refl _) _).trans ((frm_setRow _ _ _).below (by simp) (fun i hi e => by omega))
  have BE_6 := Lib.hid (BE_5.out.trans (F.mono BE_5.out.size))
  have Kg1_5 := Lib.hid (Kg1_4.out.below F Kg1_4.out.lt)
  have S2_4 := Lib.hid (S2_3.out.below F (Nat.le_refl _))
  have Kg3_2 := Lib.hid (Kg3_1.out.below F Kg3_1.out.lt)
  clear BE_5 Kg1_4 S2_3 Kg3_1
  have Kg4_0 : Hid (Blk W4 g4 24 #[.string ⟨#[]⟩, .string ⟨#[]⟩, .string ⟨#[]⟩, .int .i64 0, .int .i64 0, .int .i64 0, .int .u64 0]) := by rw [hW4, hg4]; exact Blk_setRow kz _
  rw [← hW4] at st
  clear hW4 kz F
  go_wp2_with fail
  clear st
  rw [← hg4]
  clear hg4
  clear hmk
  have F : Below W4.heap.size W4 (W4.alloc (.cells #[.int .u8 0, .int .u8 0, .int .u8 0, .int .u8 0, .int .u8 0, .int .u8 0, .int .u8 0, .int .u8 0] 5)) := (Below.refl _ _).alloc (Nat.le_refl _) _
  have BE_7 := Lib.hid (BE_6.out.trans (F.mono BE_6.out.size))
  have Kg1_6 := Lib.hid (Kg1_5.out.below F Kg1_5.out.lt)
  have S2_5 := Lib.hid (S2_4.out.below F (Nat.le_refl _))
  have Kg3_3 := Lib.hid (Kg3_2.out.below F Kg3_2.out.lt)
  clear BE_6 Kg1_5 S2_4 Kg3_2
  refine (CD8.out _ _ _ (row_byts W4 [0, 0, 0, 0, 0, 0, 0, 0] _ 8 _ rfl rfl)).mono ?_
  rintro e w5 ⟨rfl, b5⟩
  have BE_8 := Lib.hid (BE_7.out.trans (b5.mono BE_7.out.size))
  have Kg1_7 := Lib.hid (Kg1_6.out.below b5 Kg1_6.out.lt)
  have S2_6 := Lib.hid (S2_5.out.below b5 (Nat.le_refl _))
  have Kg3_4 := Lib.hid (Kg3_3.out.below b5 Kg3_3.out.lt)
  clear BE_7 Kg1_6 S2_5 Kg3_3
  clear b5 F
  obtain ⟨g5, hg5⟩ : ∃ g5, g5 = w5.heap.size := ⟨_, rfl⟩
  have kz : Blk (w5.alloc (.cells #[.string ⟨#[]⟩, .string ⟨#[]⟩, .string ⟨#[]⟩, .int .i64 0, .int .i64 0, .int .i64 0, .int .u64 0] 24)) w5.heap.size 24 #[.string ⟨#[]⟩, .string ⟨#[]⟩, .string ⟨#[]⟩, .int .i64 0, .int .i64 0, .int .i64 0, .int .u64 0] := Blk.new _ _ _
  have st := store_rc (cs := #[.string ⟨#[]⟩, .string ⟨#[]⟩, .string ⟨#[]⟩, .int .i64 0, .int .i64 0, .int .i64 0, .int .u64 0]) kz rfl rfl rfl
  obtain ⟨W5, hW5⟩ : ∃ W5, W5 = World.setRow (w5.alloc (.cells #[.string ⟨#[]⟩, .string ⟨#[]⟩, .string ⟨#[]⟩, .int .i64 0, .int .i64 0, .int .i64 0, .int .u64 0] 24)) w5.heap.size #[.string ⟨#[]⟩, .string ⟨#[]⟩, .string ⟨#[]⟩, .int .i64 0, .int .i64 0, .int .i64 0, .int .u64 0] := ⟨_, rfl⟩
  have F : Below w5.heap.size w5 W5 := by rw [hW5]; exact ((Below.refl _ _).alloc (Nat.le_refl _) _).trans ((frm_setRow _ _ _).below (by simp) (fun i hi e => by omega))
  have BE_9 := Lib.hid (BE_8.out.trans (F.mono BE_8.out.size))
  have Kg1_8 := Lib.hid (Kg1_7.out.below F Kg1_7.out.lt)
  have S2_7 := Lib.hid (S2_6.out.below F (Nat.le_refl _))
  have Kg3_5 := Lib.hid (Kg3_4.out.below F Kg3_4.out.lt)
  clear BE_8 Kg1_7 S2_6 Kg3_4
  have q0 : W5.cell? ⟨g1, 0, none⟩ = some (.string ⟨#[48, 49, 48, 48, 48, 48, 48, 48, 48, 49, 48, 48, 48, 48]⟩) := by have := Kg1_8.out; rw [HIC.out] at this; exact this.cell 0
  have q1 : W5.cell? ⟨g1, 1, none⟩ = some (.string ⟨#[108, 111, 116, 116, 111]⟩) := by have := Kg1_8.out; rw [HIC.out] at this; exact this.cell 1
  have q2 : W5.cell? ⟨g1, 2, none⟩ = some (.string ⟨#[49, 32, 50]⟩) := by have := Kg1_8.out; rw [HIC.out] at this; exact this.cell 2
  have q3 : W5.cell? ⟨g1, 3, none⟩ = some (.int .i64 3) := by have := Kg1_8.out; rw [HIC.out] at this; exact this.cell 3
  have q4 : W5.cell? ⟨g1, 4, none⟩ = some (.int .i64 100) := by have := Kg1_8.out; rw [HIC.out] at this; exact this.cell 4
  have q5 : W5.cell? ⟨g1, 5, none⟩ = some (.int .i64 50) := by have := Kg1_8.out; rw [HIC.out] at this; exact this.cell 5
  rw [← hW5] at st
  clear hW5 kz F
  go_wp2_with fail
  clear st q0 q1 q2 q3 q4 q5 hg5
  have F : Below W5.heap.size W5 W5.drew := (Below.refl _ _).drew
  have BE_10 := Lib.hid (BE_9.out.trans (F.mono BE_9.out.size))
  have Kg1_9 := Lib.hid (Kg1_8.out.below F Kg1_8.out.lt)
  have S2_8 := Lib.hid (S2_7.out.below F (Nat.le_refl _))
  have Kg3_6 := Lib.hid (Kg3_5.out.below F Kg3_5.out.lt)
  clear BE_9 Kg1_8 S2_7 Kg3_5
  clear F
  refine Reg.start (by kernel_rfl) ?_
  refine Reg.take 0 (v := ?_) rfl (by kernel_rfl) (fun _ _ _ h => h) rfl ?_ ?_
  rotate_left
  · intro W hW
    have l1 : (loadRow 24 (.pointer (some ⟨g1, 0, none⟩))).run Try.prog W = .ok (.agg ic) W := load_rc (Kg1_9.out.below (hW.all) Kg1_9.out.lt) HI1.out
    go_simp
    try with_reducible rfl
  try simp only [Act.put, List.setIfInBounds_toArray, List.set_cons_zero, List.set_cons_succ]
  refine Reg.do_ 1 rfl (by kernel_rfl) rfl (fun K hK => ?_)
  go_simp
  refine (CV7.out _).mono ?_
  rintro e w6 ⟨rfl, b6⟩
  have BE6 := Lib.hid (BE_10.out.trans (b6.mono BE_10.out.size))
  have P1 := Lib.hid (Kg1_9.out.below b6 Kg1_9.out.lt)
  have P3 := Lib.hid (Kg3_6.out.below b6 Kg3_6.out.lt)
  have Q2 := Lib.hid (S2_8.out.below b6 (Nat.le_refl _))
  refine hK.out _ _ b6 ?_
  clear hK K b6
  try simp only [Act.put, List.setIfInBounds_toArray, List.set_cons_zero, List.set_cons_succ]
  refine Reg.take 2 (v := ?_) rfl (by kernel_rfl) (fun _ _ _ h => h) rfl ?_ ?_
  rotate_left
  · intro W hW
    go_simp
    try with_reducible rfl
  try simp only [Act.put, List.setIfInBounds_toArray, List.set_cons_zero, List.set_cons_succ]
  refine Reg.take 3 (v := ?_) rfl (by kernel_rfl) (fun _ _ _ h => h) rfl ?_ ?_
  rotate_left
  · intro W hW
    go_simp
    try with_reducible rfl
  try simp only [Act.put, List.setIfInBounds_toArray, List.set_cons_zero, List.set_cons_succ]
  refine Reg.take 4 (v := ?_) rfl (by kernel_rfl) (fun _ _ _ h => h) rfl ?_ ?_
  rotate_left
  · intro W hW
    have l1 : (loadRow 24 (.pointer (some ⟨g1, 0, none⟩))).run Try.prog W = .ok (.agg ic) W := load_rc (P1.out.below (hW.all) P1.out.lt) HI1.out
    go_simp
    try with_reducible rfl
  try simp only [Act.put, List.setIfInBounds_toArray, List.set_cons_zero, List.set_cons_succ]
  refine Reg.do_ 5 rfl (by kernel_rfl) rfl (fun K hK => ?_)
  go_simp
  refine (CV8.out _).mono ?_
  rintro e w7 ⟨rfl, b7⟩
  have BE7 := Lib.hid (BE6.out.trans (b7.mono BE6.out.size))
  have R3 := Lib.hid (P3.out.below b7 P3.out.lt)
  have T2 := Lib.hid (Q2.out.below b7 (Nat.le_refl _))
  refine hK.out _ _ b7 ?_
  clear hK K b7
  try simp only [Act.put, List.setIfInBounds_toArray, List.set_cons_zero, List.set_cons_succ]
  refine Reg.take 6 (v := ?_) rfl (by kernel_rfl) (fun _ _ _ h => h) rfl ?_ ?_
  rotate_left
  · intro W hW
    go_simp
    try with_reducible rfl
  try simp only [Act.put, List.setIfInBounds_toArray, List.set_cons_zero, List.set_cons_succ]
  refine Reg.take 7 (v := ?_) rfl (by kernel_rfl) (fun _ _ _ h => h) rfl ?_ ?_
  rotate_left
  · intro W hW
    go_simp
    try with_reducible rfl
  try simp only [Act.put, List.setIfInBounds_toArray, List.set_cons_zero, List.set_cons_succ]
  refine Reg.take 8 (v := ?_) rfl (by kernel_rfl) (fun _ _ _ h => h) rfl ?_ ?_
  rotate_left
  · intro W hW
    go_simp
    try with_reducible rfl
  try simp only [Act.put, List.setIfInBounds_toArray, List.set_cons_zero, List.set_cons_succ]
  refine Reg.take 9 (v := ?_) rfl (by kernel_rfl) (fun _ _ _ h => h) rfl ?_ ?_
  rotate_left
  · intro W hW
    go_simp
    try with_reducible rfl
  try simp only [Act.put, List.setIfInBounds_toArray, List.set_cons_zero, List.set_cons_succ]
  refine Reg.take 10 (v := ?_) rfl (by kernel_rfl) (fun _ _ _ h => h) rfl ?_ ?_
  rotate_left
  · intro W hW
    have cv := run_string_sl (P := Try.prog) (w := W) 38 9 5 Try.underlying38 Try.underlying5 Try.underlying9 (T2.out.below hW.all (Nat.le_refl _)) c2
    go_simp
    try with_reducible rfl
  try simp only [Act.put, List.setIfInBounds_toArray, List.set_cons_zero, List.set_cons_succ]
  refine Reg.do_ 11 rfl (by kernel_rfl) rfl (fun K hK => ?_)
  go_simp
  have hmk := mk7 w7
  go_simp
  clear hmk
  have b8 : Below w7.heap.size w7 (w7.alloc (.cells #[.int .u8 0, .int .u8 0, .int .u8 0, .int .u8 0, .int .u8 0, .int .u8 0, .int .u8 0] 5)) := (Below.refl _ _).alloc (Nat.le_refl _) _
  have BE8 := Lib.hid (BE7.out.trans (b8.mono BE7.out.size))
  have V3 := Lib.hid (R3.out.below b8 R3.out.lt)
  have S7 : Hid (Sl (w7.alloc (.cells #[.int .u8 0, .int .u8 0, .int .u8 0, .int .u8 0, .int .u8 0, .int .u8 0, .int .u8 0] 5)) 1 (some ⟨w7.heap.size, 0, none⟩) 7 (byts [0, 0, 0, 0, 0, 0, 0])) := row_byts w7 [0, 0, 0, 0, 0, 0, 0] _ 7 _ rfl rfl
  refine hK.out _ _ b8 ?_
  clear hK K b8
  generalize w7.alloc (.cells #[.int .u8 0, .int .u8 0, .int .u8 0, .int .u8 0, .int .u8 0, .int .u8 0, .int .u8 0] 5) = w8 at *
  try simp only [Act.put, List.setIfInBounds_toArray, List.set_cons_zero, List.set_cons_succ]
  refine Reg.take 12 (v := ?_) rfl (by kernel_rfl) (fun _ _ _ h => h) rfl ?_ ?_
  rotate_left
  · intro W hW
    have cv := run_string_sl (P := Try.prog) (w := W) 38 9 5 Try.underlying38 Try.underlying5 Try.underlying9 (S7.out.below hW.all (Nat.le_refl _)) 7
    go_simp
    try with_reducible rfl
  try simp only [Act.put, List.setIfInBounds_toArray, List.set_cons_zero, List.set_cons_succ]
  refine Reg.take 13 (v := ?_) rfl (by kernel_rfl) (fun _ _ _ h => h) rfl ?_ ?_
  rotate_left
  · intro W hW
    go_simp
    try with_reducible rfl
  try simp only [Act.put, List.setIfInBounds_toArray, List.set_cons_zero, List.set_cons_succ]
  refine Reg.take 14 (v := ?_) rfl (by kernel_rfl) (fun _ _ _ h => h) rfl ?_ ?_
  rotate_left
  · intro W hW
    go_simp
    try with_reducible rfl
  try simp only [Act.put, List.setIfInBounds_toArray, List.set_cons_zero, List.set_cons_succ]
  refine Reg.take 15 (v := ?_) rfl (by kernel_rfl) (fun _ _ _ h => h) rfl ?_ ?_
  rotate_left
  · intro W hW
    go_simp
    try with_reducible rfl
  try simp only [Act.put, List.setIfInBounds_toArray, List.set_cons_zero, List.set_cons_succ]
  refine Reg.take 16 (v := ?_) rfl (by kernel_rfl) (fun _ _ _ h => h) rfl ?_ ?_
  rotate_left
  · intro W hW
    have l1 : (loadRow 24 (.pointer (some ⟨g3, 0, none⟩))).run Try.prog W = .ok (.agg #[.string ⟨#[]⟩, .string ⟨#[]⟩, .string ⟨#[]⟩, .int .i64 0, .int .i64 0, .int .i64 0, .int .u64 0]) W := load_rc (V3.out.below (hW.all) V3.out.lt) rfl
    go_simp
    try with_reducible rfl
  try simp only [Act.put, List.setIfInBounds_toArray, List.set_cons_zero, List.set_cons_succ]
  refine Reg.take 17 (v := ?_) rfl (by kernel_rfl) (fun _ _ _ h => h) rfl ?_ ?_
  rotate_left
  · intro W hW
    go_simp
    try with_reducible rfl
  try simp only [Act.put, List.setIfInBounds_toArray, List.set_cons_zero, List.set_cons_succ]
  refine Reg.take 18 (v := ?_) rfl (by kernel_rfl) (fun _ _ _ h => h) rfl ?_ ?_
  rotate_left
  · intro W hW
    have he := HEQ.out W
    go_simp
    try with_reducible rfl
  try simp only [Act.put, List.setIfInBounds_toArray, List.set_cons_zero, List.set_cons_succ]
  refine Reg.take 19 (v := ?_) rfl (by kernel_rfl) (fun _ _ _ h => h) rfl ?_ ?_
  rotate_left
  · intro W hW
    go_simp
    try with_reducible rfl
  try simp only [Act.put, List.setIfInBounds_toArray, List.set_cons_zero, List.set_cons_succ]
  refine Reg.take 20 (v := ?_) rfl (by kernel_rfl) (fun _ _ _ h => h) rfl ?_ ?_
  rotate_left
  · intro W hW
    go_simp
    try with_reducible rfl
  try simp only [Act.put, List.setIfInBounds_toArray, List.set_cons_zero, List.set_cons_succ]
  refine Reg.take 21 (v := ?_) rfl (by kernel_rfl) (fun _ _ _ h => h) rfl ?_ ?_
  rotate_left
  · intro W hW
    go_simp
    try with_reducible rfl
  try simp only [Act.put, List.setIfInBounds_toArray, List.set_cons_zero, List.set_cons_succ]
  refine Reg.take 22 (v := ?_) rfl (by kernel_rfl) (fun _ _ _ h => h) rfl ?_ ?_
  rotate_left
  · intro W hW
    go_simp
    try with_reducible rfl
  try simp only [Act.put, List.setIfInBounds_toArray, List.set_cons_zero, List.set_cons_succ]
  refine Reg.take 23 (v := ?_) rfl (by kernel_rfl) (fun _ _ _ h => h) rfl ?_ ?_
  rotate_left
  · intro W hW
    go_simp
    try with_reducible rfl
  try simp only [Act.put, List.setIfInBounds_toArray, List.set_cons_zero, List.set_cons_succ]
  refine Reg.take 24 (v := ?_) rfl (by kernel_rfl) (fun _ _ _ h => h) rfl ?_ ?_
  rotate_left
  · intro W hW
    go_simp
    try with_reducible rfl
  try simp only [Act.put, List.setIfInBounds_toArray, List.set_cons_zero, List.set_cons_succ]
  refine Reg.take 25 (v := ?_) rfl (by kernel_rfl) (fun _ _ _ h => h) rfl ?_ ?_
  rotate_left
  · intro W hW
    go_simp
    try with_reducible rfl
  try simp only [Act.put, List.setIfInBounds_toArray, List.set_cons_zero, List.set_cons_succ]
  refine Reg.take 26 (v := ?_) rfl (by kernel_rfl) (fun _ _ _ h => h) rfl ?_ ?_
  rotate_left
  · intro W hW
    go_simp
    try with_reducible rfl
  try simp only [Act.put, List.setIfInBounds_toArray, List.set_cons_zero, List.set_cons_succ]
  refine Reg.take 27 (v := ?_) rfl (by kernel_rfl) (fun _ _ _ h => h) rfl ?_ ?_
  rotate_left
  · intro W hW
    go_simp
    try with_reducible rfl
  try simp only [Act.put, List.setIfInBounds_toArray, List.set_cons_zero, List.set_cons_succ]
  refine Reg.take 28 (v := ?_) rfl (by kernel_rfl) (fun _ _ _ h => h) rfl ?_ ?_
  rotate_left
  · intro W hW
    go_simp
    try with_reducible rfl
  try simp only [Act.put, List.setIfInBounds_toArray, List.set_cons_zero, List.set_cons_succ]
  refine Reg.take 29 (v := ?_) rfl (by kernel_rfl) (fun _ _ _ h => h) rfl ?_ ?_
  rotate_left
  · intro W hW
    go_simp
    try with_reducible rfl
  try simp only [Act.put, List.setIfInBounds_toArray, List.set_cons_zero, List.set_cons_succ]
  refine Reg.take 30 (v := ?_) rfl (by kernel_rfl) (fun _ _ _ h => h) rfl ?_ ?_
  rotate_left
  · intro W hW
    go_simp
    try with_reducible rfl
  try simp only [Act.put, List.setIfInBounds_toArray, List.set_cons_zero, List.set_cons_succ]
  refine Reg.take 31 (v := ?_) rfl (by kernel_rfl) (fun _ _ _ h => h) rfl ?_ ?_
  rotate_left
  · intro W hW
    go_simp
    try with_reducible rfl
  try simp only [Act.put, List.setIfInBounds_toArray, List.set_cons_zero, List.set_cons_succ]
  refine Reg.take 32 (v := ?_) rfl (by kernel_rfl) (fun _ _ _ h => h) rfl ?_ ?_
  rotate_left
  · intro W hW
    go_simp
    try with_reducible rfl
  try simp only [Act.put, List.setIfInBounds_toArray, List.set_cons_zero]
  refine Reg.done (by kernel_rfl) ?_
  go_wp2_with fail
  go_ret
  exact ⟨rfl, BE8.out⟩
end Go.Proofs.Ytjnaooiklcbemaa.Rt
