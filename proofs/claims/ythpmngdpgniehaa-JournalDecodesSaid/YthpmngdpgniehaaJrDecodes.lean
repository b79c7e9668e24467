/-
  The walk of JournalDecodes: it returns true, and changes nothing that was there. Conditions: the bytes lie in memory.
-/
import Derived.Test.YthpmngdpgniehaaJrEncodes
namespace Go.Proofs.Ythpmngdpgniehaa.Jr
open Go.RowKit Go.Proofs.Ythpmngdpgniehaa.Mem Go.Proofs.Ythpmngdpgniehaa.Wr Go.Proofs.Ythpmngdpgniehaa.Opn
attribute [local go_sem ↓] exec_load_rec exec_store_rec exec_build_recs

set_option maxRecDepth 100000 in
set_option maxHeartbeats 8000000 in
theorem decodes_walk (bs : List UInt8) (A : Option Addr) (n c : Nat) (w : World) (hs : Sl w 1 A n (byts bs)) : Calls Try.prog 5 #[.slice A n c] w (YesB w) := by
  by_cases hn : n ≤ 50000
  · have hni : (n : Int) ≤ 50000 := by omega
    have HL : Hid (n ≤ 100000000) := Lib.hid (by omega)
    have HS := Lib.hid hs
    clear hs hn
    go_enter Try.func5, Try.ntmps5
    go_wp2_with fail
    refine (decode_any bs A n c _ HS.out HL.out).mono ?_
    rintro e w1 ⟨cs, rfl, ir, b1, _⟩
    have kz1 : Blk (w1.alloc (.cells #[.int .i64 0, .int .i64 0, .int .i64 0, .int .i64 0, .int .i64 0, .string ⟨#[]⟩, .string ⟨#[]⟩, .slice none 0 0, .int .u64 0, .int .u64 0, .string ⟨#[]⟩, .slice none 0 0] 27)) w1.heap.size 27 #[.int .i64 0, .int .i64 0, .int .i64 0, .int .i64 0, .int .i64 0, .string ⟨#[]⟩, .string ⟨#[]⟩, .slice none 0 0, .int .u64 0, .int .u64 0, .string ⟨#[]⟩, .slice none 0 0] := Blk.new _ _ _
    have st1 := store_rec (cs := cs) kz1 rfl (rec_size ir) (rec_one ir)
    have KB1 := Blk_setRow kz1 cs
    have BA1 : Below w1.heap.size w1 ((w1.alloc (.cells #[.int .i64 0, .int .i64 0, .int .i64 0, .int .i64 0, .int .i64 0, .string ⟨#[]⟩, .string ⟨#[]⟩, .slice none 0 0, .int .u64 0, .int .u64 0, .string ⟨#[]⟩, .slice none 0 0] 27)).setRow w1.heap.size cs) := ((Below.refl _ w1).alloc (Nat.le_refl _) _).trans ((frm_setRow _ _ _).below (by simp) (fun i hi e => by omega))
    obtain ⟨W1, hW1⟩ : ∃ W1, W1 = ((w1.alloc (.cells #[.int .i64 0, .int .i64 0, .int .i64 0, .int .i64 0, .int .i64 0, .string ⟨#[]⟩, .string ⟨#[]⟩, .slice none 0 0, .int .u64 0, .int .u64 0, .string ⟨#[]⟩, .slice none 0 0] 27)).setRow w1.heap.size cs) := ⟨_, rfl⟩
    rw [← hW1] at st1 KB1 BA1
    have IR1 : Hid (IsRec W1 cs (dec bs)) := Lib.hid (ir.below BA1 (Nat.le_refl _))
    have HC1 := Lib.hid (rec_size ir)
    have B1 := Lib.hid (b1.trans (BA1.mono b1.size))
    have S1 := Lib.hid (HS.out.below B1.out (Nat.le_refl _))
    have K1 := Lib.hid KB1
    clear hW1 kz1 BA1 KB1 ir b1
    go_wp2_with fail
    refine (decodeR_any bs A n c _ S1.out HL.out).mono ?_
    rintro e w2 ⟨ds, rfl, ir, b2, _⟩
    have kz2 : Blk (w2.alloc (.cells #[.int .i64 0, .int .i64 0, .int .i64 0, .int .i64 0, .int .i64 0, .string ⟨#[]⟩, .string ⟨#[]⟩, .slice none 0 0, .int .u64 0, .int .u64 0, .string ⟨#[]⟩, .slice none 0 0] 27)) w2.heap.size 27 #[.int .i64 0, .int .i64 0, .int .i64 0, .int .i64 0, .int .i64 0, .string ⟨#[]⟩, .string ⟨#[]⟩, .slice none 0 0, .int .u64 0, .int .u64 0, .string ⟨#[]⟩, .slice none 0 0] := Blk.new _ _ _
    have st2 := store_rec (cs := ds) kz2 rfl (rec_size ir) (rec_one ir)
    have KB2 := Blk_setRow kz2 ds
    have BA2 : Below w2.heap.size w2 ((w2.alloc (.cells #[.int .i64 0, .int .i64 0, .int .i64 0, .int .i64 0, .int .i64 0, .string ⟨#[]⟩, .string ⟨#[]⟩, .slice none 0 0, .int .u64 0, .int .u64 0, .string ⟨#[]⟩, .slice none 0 0] 27)).setRow w2.heap.size ds) := ((Below.refl _ w2).alloc (Nat.le_refl _) _).trans ((frm_setRow _ _ _).below (by simp) (fun i hi e => by omega))
    obtain ⟨W2, hW2⟩ : ∃ W2, W2 = ((w2.alloc (.cells #[.int .i64 0, .int .i64 0, .int .i64 0, .int .i64 0, .int .i64 0, .string ⟨#[]⟩, .string ⟨#[]⟩, .slice none 0 0, .int .u64 0, .int .u64 0, .string ⟨#[]⟩, .slice none 0 0] 27)).setRow w2.heap.size ds) := ⟨_, rfl⟩
    rw [← hW2] at st2 KB2 BA2
    have IR2 : Hid (IsRec W2 ds (dec bs)) := Lib.hid (ir.below BA2 (Nat.le_refl _))
    have HC2 := Lib.hid (rec_size ir)
    have B2 := Lib.hid (B1.out.trans ((b2.mono B1.out.size).trans (BA2.mono (Nat.le_trans B1.out.size b2.size))))
    have BB := b2.trans (BA2.mono b2.size)
    have IA : Hid (IsRec W2 cs (dec bs)) := Lib.hid (IR1.out.below BB (Nat.le_refl _))
    have l1 : (loadRow 27 (.pointer (some ⟨w1.heap.size, 0, none⟩))).run Try.prog W2 = .ok (.agg cs) W2 := load_blk (K1.out.below BB K1.out.lt) HC1.out
    have l2 : (loadRow 27 (.pointer (some ⟨w2.heap.size, 0, none⟩))).run Try.prog W2 = .ok (.agg ds) W2 := load_blk KB2 HC2.out
    clear hW2 kz2 BA2 KB2 BB ir b2 st1
    go_wp2_with fail
    refine (sameR_any cs ds (dec bs) (dec bs) _ IA.out IR2.out).mono ?_
    rw [same_self]
    rintro e w3 ⟨rfl, b3⟩
    have B3 := Lib.hid (B2.out.trans (b3.mono B2.out.size))
    clear l1 l2 st2 b3
    go_wp2_with fail
    refine (awake_any _).mono ?_
    rintro e w4 ⟨rfl, b4⟩
    have B4 := Lib.hid (B3.out.trans (b4.mono B3.out.size))
    clear b4
    go_wp2_with fail
    go_ret
    exact ⟨rfl, B4.out⟩
  · have hni : (50000 : Int) < (n : Int) := by omega
    clear hs
    go_enter Try.func5, Try.ntmps5
    go_wp2_with fail
    refine (awake_any _).mono ?_
    rintro e w4 ⟨rfl, b4⟩
    have B4 := Lib.hid b4
    clear b4
    go_wp2_with fail
    go_ret
    exact ⟨rfl, B4.out⟩
end Go.Proofs.Ythpmngdpgniehaa.Jr
