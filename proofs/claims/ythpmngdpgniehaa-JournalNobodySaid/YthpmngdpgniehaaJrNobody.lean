/-
  The walk of JournalNobody: it returns true, and changes nothing that was there. Conditions: the record lies in memory.
-/
import Derived.Test.YthpmngdpgniehaaJrShut
import Derived.Test.YthpmngdpgniehaaJrSameR
namespace Go.Proofs.Ythpmngdpgniehaa.Jr
open Go.RowKit Go.Proofs.Ythpmngdpgniehaa.Mem Go.Proofs.Ythpmngdpgniehaa.Wr Go.Proofs.Ythpmngdpgniehaa.Opn
attribute [local go_sem ↓] exec_load_rec exec_store_rec exec_build_recs

set_option maxRecDepth 100000 in
set_option maxHeartbeats 8000000 in
theorem nobody_any (r : Rec) (cs : Array Value) (i : Int) (w : World) (hr : IsRec w cs r) :
    Calls Try.prog 3 #[.agg cs, .int .i64 i] w (YesB w) := by
  obtain ⟨W0, hW0⟩ : ∃ W0, W0 = w.alloc (.cells cs 27) := ⟨_, rfl⟩
  have BE : Hid (Below w.heap.size w W0) := by rw [hW0]; exact (Below.refl _ w).alloc (Nat.le_refl _) _
  have HR : Hid (IsRec W0 cs r) := hr.below BE.out (Nat.le_refl _)
  have KB : Hid (Blk W0 w.heap.size 27 cs) := by rw [hW0]; exact Blk.new _ _ _
  have ld : (loadRow 27 (.pointer (some ⟨w.heap.size, 0, none⟩))).run Try.prog W0 = .ok (.agg cs) W0 := load_blk KB.out (rec_size hr)
  rw [hW0] at ld
  have HW := Lib.hid hW0
  have HS := Lib.hid (rec_size hr)
  have bo := build_one hr
  have HZ : Hid (w.heap.size + 1 = W0.heap.size) := Lib.hid (by rw [hW0]; simp)
  clear hr hW0
  go_enter Try.func3, Try.ntmps3
  go_wp2_with fail
  rw [← HW.out]
  refine (few_any [r] _ 1 1 _ rfl (recsl_one HZ.out HR.out _)).mono ?_
  rintro e w1 ⟨rfl, b1⟩
  have B1 := Lib.hid (((Below.refl _ W0).alloc (Nat.le_refl _) _).trans (b1.mono (by simp)))
  have BE1 := Lib.hid (BE.out.trans (B1.out.mono BE.out.size))
  have HR1 := Lib.hid (HR.out.below B1.out (Nat.le_refl _))
  have KB1 := Lib.hid (KB.out.below B1.out KB.out.lt)
  clear b1 B1 BE HR KB HW ld
  cases hfw : fewB [r] with
  | false =>
    go_wp2_with fail
    refine (awake_any _).mono ?_
    rintro e w2 ⟨rfl, b2⟩
    have B2 := Lib.hid (BE1.out.trans (b2.mono BE1.out.size))
    clear b2
    go_wp2_with fail
    go_ret
    exact ⟨rfl, B2.out⟩
  | true =>
    clear hfw
    have ld : (loadRow 27 (.pointer (some ⟨w.heap.size, 0, none⟩))).run Try.prog w1 = .ok (.agg cs) w1 := load_blk KB1.out HS.out
    go_wp2_with fail
    refine (nil_append _ _ r HR1.out).mono ?_
    rintro e w2 ⟨rfl, b2⟩
    have B2 := Lib.hid (BE1.out.trans (b2.mono BE1.out.size))
    clear b2 ld BE1 HR1 KB1
    go_wp2_with fail
    refine (nil_record i _).mono ?_
    rintro e w3 ⟨ds, rfl, ir, b3⟩
    have B3 := Lib.hid (B2.out.trans (b3.mono B2.out.size))
    have kz : Blk (w3.alloc (.cells #[.int .i64 0, .int .i64 0, .int .i64 0, .int .i64 0, .int .i64 0, .string ⟨#[]⟩, .string ⟨#[]⟩, .slice none 0 0, .int .u64 0, .int .u64 0, .string ⟨#[]⟩, .slice none 0 0] 27)) w3.heap.size 27 #[.int .i64 0, .int .i64 0, .int .i64 0, .int .i64 0, .int .i64 0, .string ⟨#[]⟩, .string ⟨#[]⟩, .slice none 0 0, .int .u64 0, .int .u64 0, .string ⟨#[]⟩, .slice none 0 0] := Blk.new _ _ _
    have st := store_rec (cs := ds) kz rfl (rec_size ir) (rec_one ir)
    have KB := Lib.hid (Blk_setRow kz ds)
    have BA : Hid (Below w3.heap.size w3 ((w3.alloc (.cells #[.int .i64 0, .int .i64 0, .int .i64 0, .int .i64 0, .int .i64 0, .string ⟨#[]⟩, .string ⟨#[]⟩, .slice none 0 0, .int .u64 0, .int .u64 0, .string ⟨#[]⟩, .slice none 0 0] 27)).setRow w3.heap.size ds)) := Lib.hid (((Below.refl _ w3).alloc (Nat.le_refl _) _).trans ((frm_setRow _ _ _).below (by simp) (fun i hi e => by omega)))
    obtain ⟨W1, hW1⟩ : ∃ W1, W1 = ((w3.alloc (.cells #[.int .i64 0, .int .i64 0, .int .i64 0, .int .i64 0, .int .i64 0, .string ⟨#[]⟩, .string ⟨#[]⟩, .slice none 0 0, .int .u64 0, .int .u64 0, .string ⟨#[]⟩, .slice none 0 0] 27)).setRow w3.heap.size ds) := ⟨_, rfl⟩
    rw [← hW1] at st KB BA
    have HI1 : Hid (IsRec W1 ds none_) := Lib.hid (ir.below BA.out (Nat.le_refl _))
    have B4 := Lib.hid (B3.out.trans (BA.out.mono B3.out.size))
    have ld1 : (loadRow 27 (.pointer (some ⟨w3.heap.size, 0, none⟩))).run Try.prog W1 = .ok (.agg ds) W1 := load_blk KB.out (rec_size ir)
    clear hW1 kz ir b3 B3 BA B2
    go_wp2_with fail
    refine (sameR_any ds _ none_ none_ _ HI1.out (is_none _)).mono ?_
    rw [same_self]
    rintro e w5 ⟨rfl, b5⟩
    have B5 := Lib.hid (B4.out.trans (b5.mono B4.out.size))
    clear b5 B4 HI1 KB st ld1
    go_wp2_with fail
    refine (nil_len _).mono ?_
    rintro e w6 ⟨rfl, b6⟩
    have B6 := Lib.hid (B5.out.trans (b6.mono B5.out.size))
    clear b6 B5
    go_wp2_with fail
    refine (nil_hash _).mono ?_
    rintro e w7 ⟨rfl, b7⟩
    have B7 := Lib.hid (B6.out.trans (b7.mono B6.out.size))
    clear b7 B6
    go_wp2_with fail
    refine (nil_bytes _).mono ?_
    rintro e w8 ⟨rfl, b8⟩
    have B8 := Lib.hid (B7.out.trans (b8.mono B7.out.size))
    clear b8 B7
    go_wp2_with fail
    refine (awake_any _).mono ?_
    rintro e w9 ⟨rfl, b9⟩
    have B9 := Lib.hid (B8.out.trans (b9.mono B8.out.size))
    clear b9 B8
    go_wp2_with fail
    go_ret
    exact ⟨rfl, B9.out⟩
end Go.Proofs.Ythpmngdpgniehaa.Jr
