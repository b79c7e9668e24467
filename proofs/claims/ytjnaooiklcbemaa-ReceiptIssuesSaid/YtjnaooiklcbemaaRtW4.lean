/-
  The walks of Decode of package receipt and of its reference. Conditions: the bytes lie in memory; at most 100000000 of them.
-/
import Derived.Test.YtjnaooiklcbemaaRtW3
import Derived.Test.YtjnaooiklcbemaaWrR5
import Derived.Test.YtjnaooiklcbemaaWrS4
import Derived.Laws.ResultCell
namespace Go.Proofs.Ytjnaooiklcbemaa.Rt
open Go.RowKit Go.Proofs.Ytjnaooiklcbemaa.Mem Go.Proofs.Ytjnaooiklcbemaa.Wr Go.Proofs.Ytjnaooiklcbemaa.Dg
attribute [local go_sem ↓] exec_load_rc exec_store_rc

/-- what Decode hands back. -/
def DecPost (bs : List UInt8) (w : World) (e : Ending) (w' : World) : Prop := e = .returned (.tuple #[.agg (dec bs).cells, .int .i64 (decErr bs)]) ∧ Below w.heap.size w w'
theorem i64_lit {x : Int} (h1 : -9223372036854775808 ≤ x) (h2 : x ≤ 9223372036854775807) : I64 x := ⟨h1, h2⟩
theorem ret_rc2 {fn : Func} {p u : Tmp} {R : Ending → World → Prop} {a : Act} {w : World} {g : Nat} {cs : Array Value} (h : fn.results = #[.cell p 24, .tmp u]) (hd : a.defers = [])
    (hp : a.tmps.getD p undef = .pointer (some ⟨g, 0, none⟩)) (hg : Blk w g 24 cs) (hs : cs.size = 7) (hR : R (.returned (.tuple #[.agg cs, a.tmps.getD u undef])) w) : bodyPost Try.prog fn R .ret a w := by
  have hr : (results fn a.tmps).run Try.prog w = .ok (.tuple #[.agg cs, a.tmps.getD u undef]) w := by
    rw [results_cell_tmp h, hp]
    have hl := run_loadVar_row (P := Try.prog) w g 24 24 cs (0, 0) _ hg Try.underlying24 rfl (size_rc.trans (congrArg some hs.symm))
    simp [asAddr, hl]
  exact bodyPost_ret hr hd hR

set_option maxRecDepth 100000 in
set_option maxHeartbeats 4000000 in
theorem decode_any (bs : List UInt8) (A : Option Addr) (n c : Nat) (w : World) (hs : Sl w 1 A n (byts bs)) (hl : n ≤ 100000000) :
    Calls Try.prog 20 #[.slice A n c] w (DecPost bs w) := by
  obtain ⟨W0, hW0⟩ : ∃ W0, W0 = w.alloc (.cells #[.string ⟨#[]⟩, .string ⟨#[]⟩, .string ⟨#[]⟩, .int .i64 0, .int .i64 0, .int .i64 0, .int .u64 0] 24) := ⟨_, rfl⟩
  have K2 : Hid (Blk W0 w.heap.size 24 #[.string ⟨#[]⟩, .string ⟨#[]⟩, .string ⟨#[]⟩, .int .i64 0, .int .i64 0, .int .i64 0, .int .u64 0]) := by rw [hW0]; exact Blk.new _ _ _
  have BE : Hid (Below w.heap.size w W0) := by rw [hW0]; exact (Below.refl _ w).alloc (Nat.le_refl _) _
  have HS : Hid (Sl W0 1 A n (byts bs)) := by rw [hW0]; exact hs.alloc _
  have HW := Lib.hid hW0
  clear hW0 hs
  go_enter Try.func20, Try.ntmps20
  go_wp2_with fail
  rw [← HW.out]
  refine (newReader_any bs A n c _ HS.out (by omega)).mono ?_
  rintro e w1 ⟨g, AR, rfl, hown, hrd, hb⟩
  have HO : Hid (∀ k, rown g AR k → w.heap.size < k) := fun k hk => Nat.lt_of_lt_of_le K2.out.lt (hown k hk)
  have HL : Hid (∀ k, rown g AR k → k < w1.heap.size) := fun k hk => hrd.rown_lt hk
  have HGL : Hid (w.heap.size < w1.heap.size) := Nat.lt_of_lt_of_le K2.out.lt hb.size
  have K2b : Hid (Blk w1 w.heap.size 24 #[.string ⟨#[]⟩, .string ⟨#[]⟩, .string ⟨#[]⟩, .int .i64 0, .int .i64 0, .int .i64 0, .int .u64 0]) := K2.out.below hb K2.out.lt
  have BEb : Hid (Below w.heap.size w w1) := BE.out.trans (hb.mono BE.out.size)
  have Rb : Hid (Rd 78 w1 g AR bs ⟨0, 0⟩) := hrd
  clear hown hrd hb HS HW K2 BE
  obtain ⟨g5, hg5⟩ : ∃ g5, g5 = w1.heap.size := ⟨_, rfl⟩
  obtain ⟨W, hW⟩ : ∃ W, W = w1.alloc (.cells #[.string ⟨#[]⟩, .string ⟨#[]⟩, .string ⟨#[]⟩, .int .i64 0, .int .i64 0, .int .i64 0, .int .u64 0] 24) := ⟨_, rfl⟩
  have KB0 : Hid (Blk W g5 24 #[.string ⟨#[]⟩, .string ⟨#[]⟩, .string ⟨#[]⟩, .int .i64 0, .int .i64 0, .int .i64 0, .int .u64 0]) := by rw [hW, hg5]; exact Blk.new _ _ _
  have hf0 : Frm (fun _ => False) w1 W := by rw [hW]; exact (Frm.refl _ _).alloc _
  have K20 : Hid (Blk W w.heap.size 24 #[.string ⟨#[]⟩, .string ⟨#[]⟩, .string ⟨#[]⟩, .int .i64 0, .int .i64 0, .int .i64 0, .int .u64 0]) := K2b.out.frm hf0 (fun h => h)
  have R0 : Hid (Rd 78 W g AR bs ⟨0, 0⟩) := Rb.out.keep hf0 (fun _ _ h => h)
  have BE0 : Hid (Below w.heap.size w W) := BEb.out.trans (hf0.below (B := w.heap.size) BEb.out.size (fun _ _ h => h))
  have HG5 : Hid (w.heap.size < g5) := by rw [hg5]; exact HGL.out
  have HL5 : Hid (∀ k, rown g AR k → k ≠ g5) := fun k hk e => by have := HL.out k hk; omega
  have HW := Lib.hid hW
  clear hW hf0 K2b BEb Rb HL HGL
  go_wp2_with fail
  rw [← HW.out, ← hg5]
  clear hg5 HW
  have CC : Hid (Calls Try.prog 34 #[.pointer (some ⟨g, 0, none⟩), .int .i64 24] W (RdPost 78 g AR bs (.string ⟨(q1 bs).1.toArray⟩) (q1 bs).2 W)) := rtext_any g AR bs 24 ⟨0, 0⟩ _ R0.out (i64_lit (by omega) (by omega))
  refine CC.out.mono ?_
  clear CC
  rintro e w' ⟨rfl, r, f⟩
  have kb := KB0.out.frm f (fun e => HL5.out g (.inl rfl) e.symm)
  have k2 := K20.out.frm f (fun e => by have := HO.out g (.inl rfl); omega)
  have q0 : w'.cell? ⟨g5, 0, none⟩ = some (.string ⟨#[]⟩) := kb.cell 0
  have z0 : w'.frozen? ⟨g5, 0, none⟩ = false := kb.frozen 0
  have hfs : Frm (· = g5) w' (w'.setCell ⟨g5, 0, none⟩ (.string ⟨(q1 bs).1.toArray⟩)) := (Frm.refl (· = g5) w').setCell (fun _ => rfl) _
  have KB1 : Hid (Blk (w'.setCell ⟨g5, 0, none⟩ (.string ⟨(q1 bs).1.toArray⟩)) g5 24 #[.string ⟨(q1 bs).1.toArray⟩, .string ⟨#[]⟩, .string ⟨#[]⟩, .int .i64 0, .int .i64 0, .int .i64 0, .int .u64 0]) := kb.put 0 _
  have K21 : Hid (Blk (w'.setCell ⟨g5, 0, none⟩ (.string ⟨(q1 bs).1.toArray⟩)) w.heap.size 24 #[.string ⟨#[]⟩, .string ⟨#[]⟩, .string ⟨#[]⟩, .int .i64 0, .int .i64 0, .int .i64 0, .int .u64 0]) := k2.frm hfs (fun e => by have := HG5.out; omega)
  have R1 : Hid (Rd 78 (w'.setCell ⟨g5, 0, none⟩ (.string ⟨(q1 bs).1.toArray⟩)) g AR bs (q1 bs).2) := Rd.keep (s := (q1 bs).2) r hfs HL5.out
  have BE1 : Hid (Below w.heap.size w (w'.setCell ⟨g5, 0, none⟩ (.string ⟨(q1 bs).1.toArray⟩))) := BE0.out.trans ((f.below BE0.out.size (fun i hi e => by have := HO.out g (.inl rfl); omega)).trans (hfs.below (Nat.le_trans BE0.out.size f.size) (fun i hi e => by have := HG5.out; omega)))
  clear r f kb k2 hfs KB0 K20 R0 BE0
  go_wp2_with fail
  have HV : Hid (w'.setCell ⟨g5, 0, none⟩ (.string ⟨(q1 bs).1.toArray⟩) = w'.setCell ⟨g5, 0, none⟩ (.string ⟨(q1 bs).1.toArray⟩)) := rfl
  clear q0 z0 HV
  generalize w'.setCell ⟨g5, 0, none⟩ (.string ⟨(q1 bs).1.toArray⟩) = W at *
  have CC : Hid (Calls Try.prog 34 #[.pointer (some ⟨g, 0, none⟩), .int .i64 24] W (RdPost 78 g AR bs (.string ⟨(q2 bs).1.toArray⟩) (q2 bs).2 W)) := rtext_any g AR bs 24 (q1 bs).2 _ R1.out (i64_lit (by omega) (by omega))
  refine CC.out.mono ?_
  clear CC
  rintro e w' ⟨rfl, r, f⟩
  have kb := KB1.out.frm f (fun e => HL5.out g (.inl rfl) e.symm)
  have k2 := K21.out.frm f (fun e => by have := HO.out g (.inl rfl); omega)
  have q0 : w'.cell? ⟨g5, 1, none⟩ = some (.string ⟨#[]⟩) := kb.cell 1
  have z0 : w'.frozen? ⟨g5, 1, none⟩ = false := kb.frozen 1
  have hfs : Frm (· = g5) w' (w'.setCell ⟨g5, 1, none⟩ (.string ⟨(q2 bs).1.toArray⟩)) := (Frm.refl (· = g5) w').setCell (fun _ => rfl) _
  have KB2 : Hid (Blk (w'.setCell ⟨g5, 1, none⟩ (.string ⟨(q2 bs).1.toArray⟩)) g5 24 #[.string ⟨(q1 bs).1.toArray⟩, .string ⟨(q2 bs).1.toArray⟩, .string ⟨#[]⟩, .int .i64 0, .int .i64 0, .int .i64 0, .int .u64 0]) := kb.put 1 _
  have K22 : Hid (Blk (w'.setCell ⟨g5, 1, none⟩ (.string ⟨(q2 bs).1.toArray⟩)) w.heap.size 24 #[.string ⟨#[]⟩, .string ⟨#[]⟩, .string ⟨#[]⟩, .int .i64 0, .int .i64 0, .int .i64 0, .int .u64 0]) := k2.frm hfs (fun e => by have := HG5.out; omega)
  have R2 : Hid (Rd 78 (w'.setCell ⟨g5, 1, none⟩ (.string ⟨(q2 bs).1.toArray⟩)) g AR bs (q2 bs).2) := Rd.keep (s := (q2 bs).2) r hfs HL5.out
  have BE2 : Hid (Below w.heap.size w (w'.setCell ⟨g5, 1, none⟩ (.string ⟨(q2 bs).1.toArray⟩))) := BE1.out.trans ((f.below BE1.out.size (fun i hi e => by have := HO.out g (.inl rfl); omega)).trans (hfs.below (Nat.le_trans BE1.out.size f.size) (fun i hi e => by have := HG5.out; omega)))
  clear r f kb k2 hfs KB1 K21 R1 BE1
  go_wp2_with fail
  have HV : Hid (w'.setCell ⟨g5, 1, none⟩ (.string ⟨(q2 bs).1.toArray⟩) = w'.setCell ⟨g5, 1, none⟩ (.string ⟨(q2 bs).1.toArray⟩)) := rfl
  clear q0 z0 HV
  generalize w'.setCell ⟨g5, 1, none⟩ (.string ⟨(q2 bs).1.toArray⟩) = W at *
  have CC : Hid (Calls Try.prog 34 #[.pointer (some ⟨g, 0, none⟩), .int .i64 32768] W (RdPost 78 g AR bs (.string ⟨(q3 bs).1.toArray⟩) (q3 bs).2 W)) := rtext_any g AR bs 32768 (q2 bs).2 _ R2.out (i64_lit (by omega) (by omega))
  refine CC.out.mono ?_
  clear CC
  rintro e w' ⟨rfl, r, f⟩
  have kb := KB2.out.frm f (fun e => HL5.out g (.inl rfl) e.symm)
  have k2 := K22.out.frm f (fun e => by have := HO.out g (.inl rfl); omega)
  have q0 : w'.cell? ⟨g5, 2, none⟩ = some (.string ⟨#[]⟩) := kb.cell 2
  have z0 : w'.frozen? ⟨g5, 2, none⟩ = false := kb.frozen 2
  have hfs : Frm (· = g5) w' (w'.setCell ⟨g5, 2, none⟩ (.string ⟨(q3 bs).1.toArray⟩)) := (Frm.refl (· = g5) w').setCell (fun _ => rfl) _
  have KB3 : Hid (Blk (w'.setCell ⟨g5, 2, none⟩ (.string ⟨(q3 bs).1.toArray⟩)) g5 24 #[.string ⟨(q1 bs).1.toArray⟩, .string ⟨(q2 bs).1.toArray⟩, .string ⟨(q3 bs).1.toArray⟩, .int .i64 0, .int .i64 0, .int .i64 0, .int .u64 0]) := kb.put 2 _
  have K23 : Hid (Blk (w'.setCell ⟨g5, 2, none⟩ (.string ⟨(q3 bs).1.toArray⟩)) w.heap.size 24 #[.string ⟨#[]⟩, .string ⟨#[]⟩, .string ⟨#[]⟩, .int .i64 0, .int .i64 0, .int .i64 0, .int .u64 0]) := k2.frm hfs (fun e => by have := HG5.out; omega)
  have R3 : Hid (Rd 78 (w'.setCell ⟨g5, 2, none⟩ (.string ⟨(q3 bs).1.toArray⟩)) g AR bs (q3 bs).2) := Rd.keep (s := (q3 bs).2) r hfs HL5.out
  have BE3 : Hid (Below w.heap.size w (w'.setCell ⟨g5, 2, none⟩ (.string ⟨(q3 bs).1.toArray⟩))) := BE2.out.trans ((f.below BE2.out.size (fun i hi e => by have := HO.out g (.inl rfl); omega)).trans (hfs.below (Nat.le_trans BE2.out.size f.size) (fun i hi e => by have := HG5.out; omega)))
  clear r f kb k2 hfs KB2 K22 R2 BE2
  go_wp2_with fail
  have HV : Hid (w'.setCell ⟨g5, 2, none⟩ (.string ⟨(q3 bs).1.toArray⟩) = w'.setCell ⟨g5, 2, none⟩ (.string ⟨(q3 bs).1.toArray⟩)) := rfl
  clear q0 z0 HV
  generalize w'.setCell ⟨g5, 2, none⟩ (.string ⟨(q3 bs).1.toArray⟩) = W at *
  have CC : Hid (Calls Try.prog 35 #[.pointer (some ⟨g, 0, none⟩)] W (RdPost 78 g AR bs (.int .i64 (q4 bs).1) (q4 bs).2 W)) := rint_any g AR bs (q3 bs).2 _ R3.out
  refine CC.out.mono ?_
  clear CC
  rintro e w' ⟨rfl, r, f⟩
  have kb := KB3.out.frm f (fun e => HL5.out g (.inl rfl) e.symm)
  have k2 := K23.out.frm f (fun e => by have := HO.out g (.inl rfl); omega)
  have q0 : w'.cell? ⟨g5, 3, none⟩ = some (.int .i64 0) := kb.cell 3
  have z0 : w'.frozen? ⟨g5, 3, none⟩ = false := kb.frozen 3
  have hfs : Frm (· = g5) w' (w'.setCell ⟨g5, 3, none⟩ (.int .i64 (q4 bs).1)) := (Frm.refl (· = g5) w').setCell (fun _ => rfl) _
  have KB4 : Hid (Blk (w'.setCell ⟨g5, 3, none⟩ (.int .i64 (q4 bs).1)) g5 24 #[.string ⟨(q1 bs).1.toArray⟩, .string ⟨(q2 bs).1.toArray⟩, .string ⟨(q3 bs).1.toArray⟩, .int .i64 (q4 bs).1, .int .i64 0, .int .i64 0, .int .u64 0]) := kb.put 3 _
  have K24 : Hid (Blk (w'.setCell ⟨g5, 3, none⟩ (.int .i64 (q4 bs).1)) w.heap.size 24 #[.string ⟨#[]⟩, .string ⟨#[]⟩, .string ⟨#[]⟩, .int .i64 0, .int .i64 0, .int .i64 0, .int .u64 0]) := k2.frm hfs (fun e => by have := HG5.out; omega)
  have R4 : Hid (Rd 78 (w'.setCell ⟨g5, 3, none⟩ (.int .i64 (q4 bs).1)) g AR bs (q4 bs).2) := Rd.keep (s := (q4 bs).2) r hfs HL5.out
  have BE4 : Hid (Below w.heap.size w (w'.setCell ⟨g5, 3, none⟩ (.int .i64 (q4 bs).1))) := BE3.out.trans ((f.below BE3.out.size (fun i hi e => by have := HO.out g (.inl rfl); omega)).trans (hfs.below (Nat.le_trans BE3.out.size f.size) (fun i hi e => by have := HG5.out; omega)))
  clear r f kb k2 hfs KB3 K23 R3 BE3
  go_wp2_with fail
  have HV : Hid (w'.setCell ⟨g5, 3, none⟩ (.int .i64 (q4 bs).1) = w'.setCell ⟨g5, 3, none⟩ (.int .i64 (q4 bs).1)) := rfl
  clear q0 z0 HV
  generalize w'.setCell ⟨g5, 3, none⟩ (.int .i64 (q4 bs).1) = W at *
  have CC : Hid (Calls Try.prog 35 #[.pointer (some ⟨g, 0, none⟩)] W (RdPost 78 g AR bs (.int .i64 (q5 bs).1) (q5 bs).2 W)) := rint_any g AR bs (q4 bs).2 _ R4.out
  refine CC.out.mono ?_
  clear CC
  rintro e w' ⟨rfl, r, f⟩
  have kb := KB4.out.frm f (fun e => HL5.out g (.inl rfl) e.symm)
  have k2 := K24.out.frm f (fun e => by have := HO.out g (.inl rfl); omega)
  have q0 : w'.cell? ⟨g5, 4, none⟩ = some (.int .i64 0) := kb.cell 4
  have z0 : w'.frozen? ⟨g5, 4, none⟩ = false := kb.frozen 4
  have hfs : Frm (· = g5) w' (w'.setCell ⟨g5, 4, none⟩ (.int .i64 (q5 bs).1)) := (Frm.refl (· = g5) w').setCell (fun _ => rfl) _
  have KB5 : Hid (Blk (w'.setCell ⟨g5, 4, none⟩ (.int .i64 (q5 bs).1)) g5 24 #[.string ⟨(q1 bs).1.toArray⟩, .string ⟨(q2 bs).1.toArray⟩, .string ⟨(q3 bs).1.toArray⟩, .int .i64 (q4 bs).1, .int .i64 (q5 bs).1, .int .i64 0, .int .u64 0]) := kb.put 4 _
  have K25 : Hid (Blk (w'.setCell ⟨g5, 4, none⟩ (.int .i64 (q5 bs).1)) w.heap.size 24 #[.string ⟨#[]⟩, .string ⟨#[]⟩, .string ⟨#[]⟩, .int .i64 0, .int .i64 0, .int .i64 0, .int .u64 0]) := k2.frm hfs (fun e => by have := HG5.out; omega)
  have R5 : Hid (Rd 78 (w'.setCell ⟨g5, 4, none⟩ (.int .i64 (q5 bs).1)) g AR bs (q5 bs).2) := Rd.keep (s := (q5 bs).2) r hfs HL5.out
  have BE5 : Hid (Below w.heap.size w (w'.setCell ⟨g5, 4, none⟩ (.int .i64 (q5 bs).1))) := BE4.out.trans ((f.below BE4.out.size (fun i hi e => by have := HO.out g (.inl rfl); omega)).trans (hfs.below (Nat.le_trans BE4.out.size f.size) (fun i hi e => by have := HG5.out; omega)))
  clear r f kb k2 hfs KB4 K24 R4 BE4
  go_wp2_with fail
  have HV : Hid (w'.setCell ⟨g5, 4, none⟩ (.int .i64 (q5 bs).1) = w'.setCell ⟨g5, 4, none⟩ (.int .i64 (q5 bs).1)) := rfl
  clear q0 z0 HV
  generalize w'.setCell ⟨g5, 4, none⟩ (.int .i64 (q5 bs).1) = W at *
  have CC : Hid (Calls Try.prog 35 #[.pointer (some ⟨g, 0, none⟩)] W (RdPost 78 g AR bs (.int .i64 (q6 bs).1) (q6 bs).2 W)) := rint_any g AR bs (q5 bs).2 _ R5.out
  refine CC.out.mono ?_
  clear CC
  rintro e w' ⟨rfl, r, f⟩
  have kb := KB5.out.frm f (fun e => HL5.out g (.inl rfl) e.symm)
  have k2 := K25.out.frm f (fun e => by have := HO.out g (.inl rfl); omega)
  have q0 : w'.cell? ⟨g5, 5, none⟩ = some (.int .i64 0) := kb.cell 5
  have z0 : w'.frozen? ⟨g5, 5, none⟩ = false := kb.frozen 5
  have hfs : Frm (· = g5) w' (w'.setCell ⟨g5, 5, none⟩ (.int .i64 (q6 bs).1)) := (Frm.refl (· = g5) w').setCell (fun _ => rfl) _
  have KB6 : Hid (Blk (w'.setCell ⟨g5, 5, none⟩ (.int .i64 (q6 bs).1)) g5 24 #[.string ⟨(q1 bs).1.toArray⟩, .string ⟨(q2 bs).1.toArray⟩, .string ⟨(q3 bs).1.toArray⟩, .int .i64 (q4 bs).1, .int .i64 (q5 bs).1, .int .i64 (q6 bs).1, .int .u64 0]) := kb.put 5 _
  have K26 : Hid (Blk (w'.setCell ⟨g5, 5, none⟩ (.int .i64 (q6 bs).1)) w.heap.size 24 #[.string ⟨#[]⟩, .string ⟨#[]⟩, .string ⟨#[]⟩, .int .i64 0, .int .i64 0, .int .i64 0, .int .u64 0]) := k2.frm hfs (fun e => by have := HG5.out; omega)
  have R6 : Hid (Rd 78 (w'.setCell ⟨g5, 5, none⟩ (.int .i64 (q6 bs).1)) g AR bs (q6 bs).2) := Rd.keep (s := (q6 bs).2) r hfs HL5.out
  have BE6 : Hid (Below w.heap.size w (w'.setCell ⟨g5, 5, none⟩ (.int .i64 (q6 bs).1))) := BE5.out.trans ((f.below BE5.out.size (fun i hi e => by have := HO.out g (.inl rfl); omega)).trans (hfs.below (Nat.le_trans BE5.out.size f.size) (fun i hi e => by have := HG5.out; omega)))
  clear r f kb k2 hfs KB5 K25 R5 BE5
  go_wp2_with fail
  have HV : Hid (w'.setCell ⟨g5, 5, none⟩ (.int .i64 (q6 bs).1) = w'.setCell ⟨g5, 5, none⟩ (.int .i64 (q6 bs).1)) := rfl
  clear q0 z0 HV
  generalize w'.setCell ⟨g5, 5, none⟩ (.int .i64 (q6 bs).1) = W at *
  have CC : Hid (Calls Try.prog 36 #[.pointer (some ⟨g, 0, none⟩)] W (RdPost 78 g AR bs (.int .u64 ((q7 bs).1 : Int)) (q7 bs).2 W)) := ruint_any g AR bs (q6 bs).2 _ R6.out
  refine CC.out.mono ?_
  clear CC
  rintro e w' ⟨rfl, r, f⟩
  have kb := KB6.out.frm f (fun e => HL5.out g (.inl rfl) e.symm)
  have k2 := K26.out.frm f (fun e => by have := HO.out g (.inl rfl); omega)
  have q0 : w'.cell? ⟨g5, 6, none⟩ = some (.int .u64 0) := kb.cell 6
  have z0 : w'.frozen? ⟨g5, 6, none⟩ = false := kb.frozen 6
  have hfs : Frm (· = g5) w' (w'.setCell ⟨g5, 6, none⟩ (.int .u64 ((q7 bs).1 : Int))) := (Frm.refl (· = g5) w').setCell (fun _ => rfl) _
  have KB7 : Hid (Blk (w'.setCell ⟨g5, 6, none⟩ (.int .u64 ((q7 bs).1 : Int))) g5 24 #[.string ⟨(q1 bs).1.toArray⟩, .string ⟨(q2 bs).1.toArray⟩, .string ⟨(q3 bs).1.toArray⟩, .int .i64 (q4 bs).1, .int .i64 (q5 bs).1, .int .i64 (q6 bs).1, .int .u64 ((q7 bs).1 : Int)]) := kb.put 6 _
  have K27 : Hid (Blk (w'.setCell ⟨g5, 6, none⟩ (.int .u64 ((q7 bs).1 : Int))) w.heap.size 24 #[.string ⟨#[]⟩, .string ⟨#[]⟩, .string ⟨#[]⟩, .int .i64 0, .int .i64 0, .int .i64 0, .int .u64 0]) := k2.frm hfs (fun e => by have := HG5.out; omega)
  have R7 : Hid (Rd 78 (w'.setCell ⟨g5, 6, none⟩ (.int .u64 ((q7 bs).1 : Int))) g AR bs (q7 bs).2) := Rd.keep (s := (q7 bs).2) r hfs HL5.out
  have BE7 : Hid (Below w.heap.size w (w'.setCell ⟨g5, 6, none⟩ (.int .u64 ((q7 bs).1 : Int)))) := BE6.out.trans ((f.below BE6.out.size (fun i hi e => by have := HO.out g (.inl rfl); omega)).trans (hfs.below (Nat.le_trans BE6.out.size f.size) (fun i hi e => by have := HG5.out; omega)))
  clear r f kb k2 hfs KB6 K26 R6 BE6
  go_wp2_with fail
  have HV : Hid (w'.setCell ⟨g5, 6, none⟩ (.int .u64 ((q7 bs).1 : Int)) = w'.setCell ⟨g5, 6, none⟩ (.int .u64 ((q7 bs).1 : Int))) := rfl
  clear q0 z0 HV
  generalize w'.setCell ⟨g5, 6, none⟩ (.int .u64 ((q7 bs).1 : Int)) = W at *
  refine (rerr_any g AR bs (q7 bs).2 _ R7.out).mono ?_
  rintro e w' ⟨rfl, rfl⟩
  have HD : Hid (decErr bs = if (q7 bs).2.err = 0 then (if 0 < rLeft bs (q7 bs).2 then 1 else 0) else (q7 bs).2.err) := rfl
  have HDC : Hid (dec bs = if decErr bs = 0 then got bs else none_) := rfl
  have stz := store_rc (cs := #[.string ⟨#[]⟩, .string ⟨#[]⟩, .string ⟨#[]⟩, .int .i64 0, .int .i64 0, .int .i64 0, .int .u64 0]) K27.out rfl rfl rfl
  have stg := store_rc (cs := #[.string ⟨(q1 bs).1.toArray⟩, .string ⟨(q2 bs).1.toArray⟩, .string ⟨(q3 bs).1.toArray⟩, .int .i64 (q4 bs).1, .int .i64 (q5 bs).1, .int .i64 (q6 bs).1, .int .u64 ((q7 bs).1 : Int)]) K27.out rfl rfl rfl
  have lg := load_rc KB7.out rfl
  have BZ : Hid (∀ cs, Below w.heap.size w (W.setRow w.heap.size cs)) := fun cs => BE7.out.trans ((frm_setRow W w.heap.size cs).below BE7.out.size (fun i hi e => by omega))
  have BL : Hid (∀ cs, Blk (W.setRow w.heap.size cs) w.heap.size 24 cs) := fun cs => Blk_setRow K27.out cs
  by_cases he : (q7 bs).2.err = 0
  · have te : ((q7 bs).2.err != 0) = false := by simp [he]
    have HEr := Lib.hid he
    clear he
    go_wp2_with fail
    refine (rleft_any g AR bs (q7 bs).2 _ R7.out).mono ?_
    rintro e w' ⟨rfl, q, rfl⟩
    have stz' : (storeRow 24 (.pointer (some ⟨w.heap.size, 0, none⟩)) (.agg #[.string ⟨#[]⟩, .string ⟨#[]⟩, .string ⟨#[]⟩, .int .i64 0, .int .i64 0, .int .i64 0, .int .u64 0])).run Try.prog (W.drewN q) = .ok () ((W.drewN q).setRow w.heap.size #[.string ⟨#[]⟩, .string ⟨#[]⟩, .string ⟨#[]⟩, .int .i64 0, .int .i64 0, .int .i64 0, .int .u64 0]) := store_rc (K27.out.drewN q) rfl rfl rfl
    have stg' : (storeRow 24 (.pointer (some ⟨w.heap.size, 0, none⟩)) (.agg #[.string ⟨(q1 bs).1.toArray⟩, .string ⟨(q2 bs).1.toArray⟩, .string ⟨(q3 bs).1.toArray⟩, .int .i64 (q4 bs).1, .int .i64 (q5 bs).1, .int .i64 (q6 bs).1, .int .u64 ((q7 bs).1 : Int)])).run Try.prog (W.drewN q) = .ok () ((W.drewN q).setRow w.heap.size #[.string ⟨(q1 bs).1.toArray⟩, .string ⟨(q2 bs).1.toArray⟩, .string ⟨(q3 bs).1.toArray⟩, .int .i64 (q4 bs).1, .int .i64 (q5 bs).1, .int .i64 (q6 bs).1, .int .u64 ((q7 bs).1 : Int)]) := store_rc (K27.out.drewN q) rfl rfl rfl
    have lg' : (loadRow 24 (.pointer (some ⟨g5, 0, none⟩))).run Try.prog (W.drewN q) = .ok (.agg #[.string ⟨(q1 bs).1.toArray⟩, .string ⟨(q2 bs).1.toArray⟩, .string ⟨(q3 bs).1.toArray⟩, .int .i64 (q4 bs).1, .int .i64 (q5 bs).1, .int .i64 (q6 bs).1, .int .u64 ((q7 bs).1 : Int)]) (W.drewN q) := load_rc (KB7.out.drewN q) rfl
    have BZ' : Hid (∀ cs, Below w.heap.size w ((W.drewN q).setRow w.heap.size cs)) := fun cs => (below_drewN BE7.out q).trans ((frm_setRow (W.drewN q) w.heap.size cs).below BE7.out.size (fun i hi e => by omega))
    have BL' : Hid (∀ cs, Blk ((W.drewN q).setRow w.heap.size cs) w.heap.size 24 cs) := fun cs => Blk_setRow (K27.out.drewN q) cs
    clear stz stg lg BZ BL
    by_cases hlf : 0 < rLeft bs (q7 bs).2
    · have HE1 : Hid (decErr bs = 1) := by show _ = _; rw [HD.out, if_pos HEr.out, if_pos hlf]
      have hli : (0 : Int) < (rLeft bs (q7 bs).2 : Int) := by omega
      go_wp2_with fail
      exact ret_rc2 Try.results20 rfl rfl (BL'.out _) rfl ⟨by rw [HDC.out, HE1.out]; rfl, BZ'.out _⟩
    · have HE1 : Hid (decErr bs = 0) := by show _ = _; rw [HD.out, if_pos HEr.out, if_neg hlf]
      have hli : (rLeft bs (q7 bs).2 : Int) = 0 := by omega
      have hll : rLeft bs (q7 bs).2 = 0 := by omega
      clear hlf
      go_wp2_with fail
      exact ret_rc2 Try.results20 rfl rfl (BL'.out _) rfl ⟨by rw [HDC.out, HE1.out]; rfl, BZ'.out _⟩
  · have te : ((q7 bs).2.err != 0) = true := by simp [he]
    have HEr := Lib.hid he
    have HE1 : Hid (decErr bs = (q7 bs).2.err) := by show _ = _; rw [HD.out, if_neg he]
    have HE2 : Hid (dec bs = none_) := by show _ = _; rw [HDC.out, if_neg (by rw [HE1.out]; exact he)]
    clear he
    go_wp2_with fail
    exact ret_rc2 Try.results20 rfl rfl (BL.out _) rfl ⟨by rw [HE2.out, HE1.out]; rfl, BZ.out _⟩

set_option maxRecDepth 100000 in
set_option maxHeartbeats 4000000 in
theorem decodeR_any (bs : List UInt8) (A : Option Addr) (n c : Nat) (w : World) (hs : Sl w 1 A n (byts bs)) (hl : n ≤ 100000000) :
    Calls Try.prog 21 #[.slice A n c] w (DecPost bs w) := by
  obtain ⟨W0, hW0⟩ : ∃ W0, W0 = w.alloc (.cells #[.string ⟨#[]⟩, .string ⟨#[]⟩, .string ⟨#[]⟩, .int .i64 0, .int .i64 0, .int .i64 0, .int .u64 0] 24) := ⟨_, rfl⟩
  have K2 : Hid (Blk W0 w.heap.size 24 #[.string ⟨#[]⟩, .string ⟨#[]⟩, .string ⟨#[]⟩, .int .i64 0, .int .i64 0, .int .i64 0, .int .u64 0]) := by rw [hW0]; exact Blk.new _ _ _
  have BE : Hid (Below w.heap.size w W0) := by rw [hW0]; exact (Below.refl _ w).alloc (Nat.le_refl _) _
  have HS : Hid (Sl W0 1 A n (byts bs)) := by rw [hW0]; exact hs.alloc _
  have HW := Lib.hid hW0
  clear hW0 hs
  go_enter Try.func21, Try.ntmps21
  go_wp2_with fail
  rw [← HW.out]
  refine (newReaderR_any bs A n c _ HS.out (by omega)).mono ?_
  rintro e w1 ⟨g, AR, rfl, hown, hrd, hb⟩
  have HO : Hid (∀ k, rown g AR k → w.heap.size < k) := fun k hk => Nat.lt_of_lt_of_le K2.out.lt (hown k hk)
  have HL : Hid (∀ k, rown g AR k → k < w1.heap.size) := fun k hk => hrd.rown_lt hk
  have HGL : Hid (w.heap.size < w1.heap.size) := Nat.lt_of_lt_of_le K2.out.lt hb.size
  have K2b : Hid (Blk w1 w.heap.size 24 #[.string ⟨#[]⟩, .string ⟨#[]⟩, .string ⟨#[]⟩, .int .i64 0, .int .i64 0, .int .i64 0, .int .u64 0]) := K2.out.below hb K2.out.lt
  have BEb : Hid (Below w.heap.size w w1) := BE.out.trans (hb.mono BE.out.size)
  have Rb : Hid (Rd 84 w1 g AR bs ⟨0, 0⟩) := hrd
  clear hown hrd hb HS HW K2 BE
  obtain ⟨g5, hg5⟩ : ∃ g5, g5 = w1.heap.size := ⟨_, rfl⟩
  have kz : Blk (w1.alloc (.cells #[.string ⟨#[]⟩, .string ⟨#[]⟩, .string ⟨#[]⟩, .int .i64 0, .int .i64 0, .int .i64 0, .int .u64 0] 24)) w1.heap.size 24 #[.string ⟨#[]⟩, .string ⟨#[]⟩, .string ⟨#[]⟩, .int .i64 0, .int .i64 0, .int .i64 0, .int .u64 0] := Blk.new _ _ _
  have st := store_rc (cs := #[.string ⟨#[]⟩, .string ⟨#[]⟩, .string ⟨#[]⟩, .int .i64 0, .int .i64 0, .int .i64 0, .int .u64 0]) kz rfl rfl rfl
  obtain ⟨W, hW⟩ : ∃ W, W = World.setRow (w1.alloc (.cells #[.string ⟨#[]⟩, .string ⟨#[]⟩, .string ⟨#[]⟩, .int .i64 0, .int .i64 0, .int .i64 0, .int .u64 0] 24)) w1.heap.size #[.string ⟨#[]⟩, .string ⟨#[]⟩, .string ⟨#[]⟩, .int .i64 0, .int .i64 0, .int .i64 0, .int .u64 0] := ⟨_, rfl⟩
  have KB0 : Hid (Blk W g5 24 #[.string ⟨#[]⟩, .string ⟨#[]⟩, .string ⟨#[]⟩, .int .i64 0, .int .i64 0, .int .i64 0, .int .u64 0]) := by rw [hW, hg5]; exact Blk_setRow kz _
  have hfr : Frm (· = g5) (w1.alloc (.cells #[.string ⟨#[]⟩, .string ⟨#[]⟩, .string ⟨#[]⟩, .int .i64 0, .int .i64 0, .int .i64 0, .int .u64 0] 24)) W := by rw [hW, hg5]; exact frm_setRow _ _ _
  have hf0 : Frm (fun _ => False) w1 (w1.alloc (.cells #[.string ⟨#[]⟩, .string ⟨#[]⟩, .string ⟨#[]⟩, .int .i64 0, .int .i64 0, .int .i64 0, .int .u64 0] 24)) := (Frm.refl _ _).alloc _
  have K20 : Hid (Blk W w.heap.size 24 #[.string ⟨#[]⟩, .string ⟨#[]⟩, .string ⟨#[]⟩, .int .i64 0, .int .i64 0, .int .i64 0, .int .u64 0]) := (K2b.out.frm hf0 (fun h => h)).frm hfr (fun e => by have := HGL.out; omega)
  have R0 : Hid (Rd 84 W g AR bs ⟨0, 0⟩) := (Rb.out.keep hf0 (fun _ _ h => h)).keep hfr (fun k hk e => by have := HL.out k hk; omega)
  have BE0 : Hid (Below w.heap.size w W) := BEb.out.trans ((hf0.below (B := w.heap.size) BEb.out.size (fun _ _ h => h)).trans (hfr.below (by have := BEb.out.size; simp; omega) (fun i hi e => by have := HGL.out; omega)))
  rw [← hW] at st
  have HG5 : Hid (w.heap.size < g5) := by rw [hg5]; exact HGL.out
  have HL5 : Hid (∀ k, rown g AR k → k ≠ g5) := fun k hk e => by have := HL.out k hk; omega
  clear hW hfr hf0 kz K2b BEb Rb HL HGL
  go_wp2_with fail
  clear st
  rw [← hg5]
  clear hg5
  have CC : Hid (Calls Try.prog 40 #[.pointer (some ⟨g, 0, none⟩), .int .i64 24] W (RdPost 84 g AR bs (.string ⟨(q1 bs).1.toArray⟩) (q1 bs).2 W)) := rtextR_any g AR bs 24 ⟨0, 0⟩ _ R0.out (i64_lit (by omega) (by omega))
  refine CC.out.mono ?_
  clear CC
  rintro e w' ⟨rfl, r, f⟩
  have kb := KB0.out.frm f (fun e => HL5.out g (.inl rfl) e.symm)
  have k2 := K20.out.frm f (fun e => by have := HO.out g (.inl rfl); omega)
  have q0 : w'.cell? ⟨g5, 0, none⟩ = some (.string ⟨#[]⟩) := kb.cell 0
  have z0 : w'.frozen? ⟨g5, 0, none⟩ = false := kb.frozen 0
  have hfs : Frm (· = g5) w' (w'.setCell ⟨g5, 0, none⟩ (.string ⟨(q1 bs).1.toArray⟩)) := (Frm.refl (· = g5) w').setCell (fun _ => rfl) _
  have KB1 : Hid (Blk (w'.setCell ⟨g5, 0, none⟩ (.string ⟨(q1 bs).1.toArray⟩)) g5 24 #[.string ⟨(q1 bs).1.toArray⟩, .string ⟨#[]⟩, .string ⟨#[]⟩, .int .i64 0, .int .i64 0, .int .i64 0, .int .u64 0]) := kb.put 0 _
  have K21 : Hid (Blk (w'.setCell ⟨g5, 0, none⟩ (.string ⟨(q1 bs).1.toArray⟩)) w.heap.size 24 #[.string ⟨#[]⟩, .string ⟨#[]⟩, .string ⟨#[]⟩, .int .i64 0, .int .i64 0, .int .i64 0, .int .u64 0]) := k2.frm hfs (fun e => by have := HG5.out; omega)
  have R1 : Hid (Rd 84 (w'.setCell ⟨g5, 0, none⟩ (.string ⟨(q1 bs).1.toArray⟩)) g AR bs (q1 bs).2) := Rd.keep (s := (q1 bs).2) r hfs HL5.out
  have BE1 : Hid (Below w.heap.size w (w'.setCell ⟨g5, 0, none⟩ (.string ⟨(q1 bs).1.toArray⟩))) := BE0.out.trans ((f.below BE0.out.size (fun i hi e => by have := HO.out g (.inl rfl); omega)).trans (hfs.below (Nat.le_trans BE0.out.size f.size) (fun i hi e => by have := HG5.out; omega)))
  clear r f kb k2 hfs KB0 K20 R0 BE0
  go_wp2_with fail
  have HV : Hid (w'.setCell ⟨g5, 0, none⟩ (.string ⟨(q1 bs).1.toArray⟩) = w'.setCell ⟨g5, 0, none⟩ (.string ⟨(q1 bs).1.toArray⟩)) := rfl
  clear q0 z0 HV
  generalize w'.setCell ⟨g5, 0, none⟩ (.string ⟨(q1 bs).1.toArray⟩) = W at *
  have CC : Hid (Calls Try.prog 40 #[.pointer (some ⟨g, 0, none⟩), .int .i64 24] W (RdPost 84 g AR bs (.string ⟨(q2 bs).1.toArray⟩) (q2 bs).2 W)) := rtextR_any g AR bs 24 (q1 bs).2 _ R1.out (i64_lit (by omega) (by omega))
  refine CC.out.mono ?_
  clear CC
  rintro e w' ⟨rfl, r, f⟩
  have kb := KB1.out.frm f (fun e => HL5.out g (.inl rfl) e.symm)
  have k2 := K21.out.frm f (fun e => by have := HO.out g (.inl rfl); omega)
  have q0 : w'.cell? ⟨g5, 1, none⟩ = some (.string ⟨#[]⟩) := kb.cell 1
  have z0 : w'.frozen? ⟨g5, 1, none⟩ = false := kb.frozen 1
  have hfs : Frm (· = g5) w' (w'.setCell ⟨g5, 1, none⟩ (.string ⟨(q2 bs).1.toArray⟩)) := (Frm.refl (· = g5) w').setCell (fun _ => rfl) _
  have KB2 : Hid (Blk (w'.setCell ⟨g5, 1, none⟩ (.string ⟨(q2 bs).1.toArray⟩)) g5 24 #[.string ⟨(q1 bs).1.toArray⟩, .string ⟨(q2 bs).1.toArray⟩, .string ⟨#[]⟩, .int .i64 0, .int .i64 0, .int .i64 0, .int .u64 0]) := kb.put 1 _
  have K22 : Hid (Blk (w'.setCell ⟨g5, 1, none⟩ (.string ⟨(q2 bs).1.toArray⟩)) w.heap.size 24 #[.string ⟨#[]⟩, .string ⟨#[]⟩, .string ⟨#[]⟩, .int .i64 0, .int .i64 0, .int .i64 0, .int .u64 0]) := k2.frm hfs (fun e => by have := HG5.out; omega)
  have R2 : Hid (Rd 84 (w'.setCell ⟨g5, 1, none⟩ (.string ⟨(q2 bs).1.toArray⟩)) g AR bs (q2 bs).2) := Rd.keep (s := (q2 bs).2) r hfs HL5.out
  have BE2 : Hid (Below w.heap.size w (w'.setCell ⟨g5, 1, none⟩ (.string ⟨(q2 bs).1.toArray⟩))) := BE1.out.trans ((f.below BE1.out.size (fun i hi e => by have := HO.out g (.inl rfl); omega)).trans (hfs.below (Nat.le_trans BE1.out.size f.size) (fun i hi e => by have := HG5.out; omega)))
  clear r f kb k2 hfs KB1 K21 R1 BE1
  go_wp2_with fail
  have HV : Hid (w'.setCell ⟨g5, 1, none⟩ (.string ⟨(q2 bs).1.toArray⟩) = w'.setCell ⟨g5, 1, none⟩ (.string ⟨(q2 bs).1.toArray⟩)) := rfl
  clear q0 z0 HV
  generalize w'.setCell ⟨g5, 1, none⟩ (.string ⟨(q2 bs).1.toArray⟩) = W at *
  have CC : Hid (Calls Try.prog 40 #[.pointer (some ⟨g, 0, none⟩), .int .i64 32768] W (RdPost 84 g AR bs (.string ⟨(q3 bs).1.toArray⟩) (q3 bs).2 W)) := rtextR_any g AR bs 32768 (q2 bs).2 _ R2.out (i64_lit (by omega) (by omega))
  refine CC.out.mono ?_
  clear CC
  rintro e w' ⟨rfl, r, f⟩
  have kb := KB2.out.frm f (fun e => HL5.out g (.inl rfl) e.symm)
  have k2 := K22.out.frm f (fun e => by have := HO.out g (.inl rfl); omega)
  have q0 : w'.cell? ⟨g5, 2, none⟩ = some (.string ⟨#[]⟩) := kb.cell 2
  have z0 : w'.frozen? ⟨g5, 2, none⟩ = false := kb.frozen 2
  have hfs : Frm (· = g5) w' (w'.setCell ⟨g5, 2, none⟩ (.string ⟨(q3 bs).1.toArray⟩)) := (Frm.refl (· = g5) w').setCell (fun _ => rfl) _
  have KB3 : Hid (Blk (w'.setCell ⟨g5, 2, none⟩ (.string ⟨(q3 bs).1.toArray⟩)) g5 24 #[.string ⟨(q1 bs).1.toArray⟩, .string ⟨(q2 bs).1.toArray⟩, .string ⟨(q3 bs).1.toArray⟩, .int .i64 0, .int .i64 0, .int .i64 0, .int .u64 0]) := kb.put 2 _
  have K23 : Hid (Blk (w'.setCell ⟨g5, 2, none⟩ (.string ⟨(q3 bs).1.toArray⟩)) w.heap.size 24 #[.string ⟨#[]⟩, .string ⟨#[]⟩, .string ⟨#[]⟩, .int .i64 0, .int .i64 0, .int .i64 0, .int .u64 0]) := k2.frm hfs (fun e => by have := HG5.out; omega)
  have R3 : Hid (Rd 84 (w'.setCell ⟨g5, 2, none⟩ (.string ⟨(q3 bs).1.toArray⟩)) g AR bs (q3 bs).2) := Rd.keep (s := (q3 bs).2) r hfs HL5.out
  have BE3 : Hid (Below w.heap.size w (w'.setCell ⟨g5, 2, none⟩ (.string ⟨(q3 bs).1.toArray⟩))) := BE2.out.trans ((f.below BE2.out.size (fun i hi e => by have := HO.out g (.inl rfl); omega)).trans (hfs.below (Nat.le_trans BE2.out.size f.size) (fun i hi e => by have := HG5.out; omega)))
  clear r f kb k2 hfs KB2 K22 R2 BE2
  go_wp2_with fail
  have HV : Hid (w'.setCell ⟨g5, 2, none⟩ (.string ⟨(q3 bs).1.toArray⟩) = w'.setCell ⟨g5, 2, none⟩ (.string ⟨(q3 bs).1.toArray⟩)) := rfl
  clear q0 z0 HV
  generalize w'.setCell ⟨g5, 2, none⟩ (.string ⟨(q3 bs).1.toArray⟩) = W at *
  have CC : Hid (Calls Try.prog 41 #[.pointer (some ⟨g, 0, none⟩)] W (RdPost 84 g AR bs (.int .i64 (q4 bs).1) (q4 bs).2 W)) := rintR_any g AR bs (q3 bs).2 _ R3.out
  refine CC.out.mono ?_
  clear CC
  rintro e w' ⟨rfl, r, f⟩
  have kb := KB3.out.frm f (fun e => HL5.out g (.inl rfl) e.symm)
  have k2 := K23.out.frm f (fun e => by have := HO.out g (.inl rfl); omega)
  have q0 : w'.cell? ⟨g5, 3, none⟩ = some (.int .i64 0) := kb.cell 3
  have z0 : w'.frozen? ⟨g5, 3, none⟩ = false := kb.frozen 3
  have hfs : Frm (· = g5) w' (w'.setCell ⟨g5, 3, none⟩ (.int .i64 (q4 bs).1)) := (Frm.refl (· = g5) w').setCell (fun _ => rfl) _
  have KB4 : Hid (Blk (w'.setCell ⟨g5, 3, none⟩ (.int .i64 (q4 bs).1)) g5 24 #[.string ⟨(q1 bs).1.toArray⟩, .string ⟨(q2 bs).1.toArray⟩, .string ⟨(q3 bs).1.toArray⟩, .int .i64 (q4 bs).1, .int .i64 0, .int .i64 0, .int .u64 0]) := kb.put 3 _
  have K24 : Hid (Blk (w'.setCell ⟨g5, 3, none⟩ (.int .i64 (q4 bs).1)) w.heap.size 24 #[.string ⟨#[]⟩, .string ⟨#[]⟩, .string ⟨#[]⟩, .int .i64 0, .int .i64 0, .int .i64 0, .int .u64 0]) := k2.frm hfs (fun e => by have := HG5.out; omega)
  have R4 : Hid (Rd 84 (w'.setCell ⟨g5, 3, none⟩ (.int .i64 (q4 bs).1)) g AR bs (q4 bs).2) := Rd.keep (s := (q4 bs).2) r hfs HL5.out
  have BE4 : Hid (Below w.heap.size w (w'.setCell ⟨g5, 3, none⟩ (.int .i64 (q4 bs).1))) := BE3.out.trans ((f.below BE3.out.size (fun i hi e => by have := HO.out g (.inl rfl); omega)).trans (hfs.below (Nat.le_trans BE3.out.size f.size) (fun i hi e => by have := HG5.out; omega)))
  clear r f kb k2 hfs KB3 K23 R3 BE3
  go_wp2_with fail
  have HV : Hid (w'.setCell ⟨g5, 3, none⟩ (.int .i64 (q4 bs).1) = w'.setCell ⟨g5, 3, none⟩ (.int .i64 (q4 bs).1)) := rfl
  clear q0 z0 HV
  generalize w'.setCell ⟨g5, 3, none⟩ (.int .i64 (q4 bs).1) = W at *
  have CC : Hid (Calls Try.prog 41 #[.pointer (some ⟨g, 0, none⟩)] W (RdPost 84 g AR bs (.int .i64 (q5 bs).1) (q5 bs).2 W)) := rintR_any g AR bs (q4 bs).2 _ R4.out
  refine CC.out.mono ?_
  clear CC
  rintro e w' ⟨rfl, r, f⟩
  have kb := KB4.out.frm f (fun e => HL5.out g (.inl rfl) e.symm)
  have k2 := K24.out.frm f (fun e => by have := HO.out g (.inl rfl); omega)
  have q0 : w'.cell? ⟨g5, 4, none⟩ = some (.int .i64 0) := kb.cell 4
  have z0 : w'.frozen? ⟨g5, 4, none⟩ = false := kb.frozen 4
  have hfs : Frm (· = g5) w' (w'.setCell ⟨g5, 4, none⟩ (.int .i64 (q5 bs).1)) := (Frm.refl (· = g5) w').setCell (fun _ => rfl) _
  have KB5 : Hid (Blk (w'.setCell ⟨g5, 4, none⟩ (.int .i64 (q5 bs).1)) g5 24 #[.string ⟨(q1 bs).1.toArray⟩, .string ⟨(q2 bs).1.toArray⟩, .string ⟨(q3 bs).1.toArray⟩, .int .i64 (q4 bs).1, .int .i64 (q5 bs).1, .int .i64 0, .int .u64 0]) := kb.put 4 _
  have K25 : Hid (Blk (w'.setCell ⟨g5, 4, none⟩ (.int .i64 (q5 bs).1)) w.heap.size 24 #[.string ⟨#[]⟩, .string ⟨#[]⟩, .string ⟨#[]⟩, .int .i64 0, .int .i64 0, .int .i64 0, .int .u64 0]) := k2.frm hfs (fun e => by have := HG5.out; omega)
  have R5 : Hid (Rd 84 (w'.setCell ⟨g5, 4, none⟩ (.int .i64 (q5 bs).1)) g AR bs (q5 bs).2) := Rd.keep (s := (q5 bs).2) r hfs HL5.out
  have BE5 : Hid (Below w.heap.size w (w'.setCell ⟨g5, 4, none⟩ (.int .i64 (q5 bs).1))) := BE4.out.trans ((f.below BE4.out.size (fun i hi e => by have := HO.out g (.inl rfl); omega)).trans (hfs.below (Nat.le_trans BE4.out.size f.size) (fun i hi e => by have := HG5.out; omega)))
  clear r f kb k2 hfs KB4 K24 R4 BE4
  go_wp2_with fail
  have HV : Hid (w'.setCell ⟨g5, 4, none⟩ (.int .i64 (q5 bs).1) = w'.setCell ⟨g5, 4, none⟩ (.int .i64 (q5 bs).1)) := rfl
  clear q0 z0 HV
  generalize w'.setCell ⟨g5, 4, none⟩ (.int .i64 (q5 bs).1) = W at *
  have CC : Hid (Calls Try.prog 41 #[.pointer (some ⟨g, 0, none⟩)] W (RdPost 84 g AR bs (.int .i64 (q6 bs).1) (q6 bs).2 W)) := rintR_any g AR bs (q5 bs).2 _ R5.out
  refine CC.out.mono ?_
  clear CC
  rintro e w' ⟨rfl, r, f⟩
  have kb := KB5.out.frm f (fun e => HL5.out g (.inl rfl) e.symm)
  have k2 := K25.out.frm f (fun e => by have := HO.out g (.inl rfl); omega)
  have q0 : w'.cell? ⟨g5, 5, none⟩ = some (.int .i64 0) := kb.cell 5
  have z0 : w'.frozen? ⟨g5, 5, none⟩ = false := kb.frozen 5
  have hfs : Frm (· = g5) w' (w'.setCell ⟨g5, 5, none⟩ (.int .i64 (q6 bs).1)) := (Frm.refl (· = g5) w').setCell (fun _ => rfl) _
  have KB6 : Hid (Blk (w'.setCell ⟨g5, 5, none⟩ (.int .i64 (q6 bs).1)) g5 24 #[.string ⟨(q1 bs).1.toArray⟩, .string ⟨(q2 bs).1.toArray⟩, .string ⟨(q3 bs).1.toArray⟩, .int .i64 (q4 bs).1, .int .i64 (q5 bs).1, .int .i64 (q6 bs).1, .int .u64 0]) := kb.put 5 _
  have K26 : Hid (Blk (w'.setCell ⟨g5, 5, none⟩ (.int .i64 (q6 bs).1)) w.heap.size 24 #[.string ⟨#[]⟩, .string ⟨#[]⟩, .string ⟨#[]⟩, .int .i64 0, .int .i64 0, .int .i64 0, .int .u64 0]) := k2.frm hfs (fun e => by have := HG5.out; omega)
  have R6 : Hid (Rd 84 (w'.setCell ⟨g5, 5, none⟩ (.int .i64 (q6 bs).1)) g AR bs (q6 bs).2) := Rd.keep (s := (q6 bs).2) r hfs HL5.out
  have BE6 : Hid (Below w.heap.size w (w'.setCell ⟨g5, 5, none⟩ (.int .i64 (q6 bs).1))) := BE5.out.trans ((f.below BE5.out.size (fun i hi e => by have := HO.out g (.inl rfl); omega)).trans (hfs.below (Nat.le_trans BE5.out.size f.size) (fun i hi e => by have := HG5.out; omega)))
  clear r f kb k2 hfs KB5 K25 R5 BE5
  go_wp2_with fail
  have HV : Hid (w'.setCell ⟨g5, 5, none⟩ (.int .i64 (q6 bs).1) = w'.setCell ⟨g5, 5, none⟩ (.int .i64 (q6 bs).1)) := rfl
  clear q0 z0 HV
  generalize w'.setCell ⟨g5, 5, none⟩ (.int .i64 (q6 bs).1) = W at *
  have CC : Hid (Calls Try.prog 42 #[.pointer (some ⟨g, 0, none⟩)] W (RdPost 84 g AR bs (.int .u64 ((q7 bs).1 : Int)) (q7 bs).2 W)) := ruintR_any g AR bs (q6 bs).2 _ R6.out
  refine CC.out.mono ?_
  clear CC
  rintro e w' ⟨rfl, r, f⟩
  have kb := KB6.out.frm f (fun e => HL5.out g (.inl rfl) e.symm)
  have k2 := K26.out.frm f (fun e => by have := HO.out g (.inl rfl); omega)
  have q0 : w'.cell? ⟨g5, 6, none⟩ = some (.int .u64 0) := kb.cell 6
  have z0 : w'.frozen? ⟨g5, 6, none⟩ = false := kb.frozen 6
  have hfs : Frm (· = g5) w' (w'.setCell ⟨g5, 6, none⟩ (.int .u64 ((q7 bs).1 : Int))) := (Frm.refl (· = g5) w').setCell (fun _ => rfl) _
  have KB7 : Hid (Blk (w'.setCell ⟨g5, 6, none⟩ (.int .u64 ((q7 bs).1 : Int))) g5 24 #[.string ⟨(q1 bs).1.toArray⟩, .string ⟨(q2 bs).1.toArray⟩, .string ⟨(q3 bs).1.toArray⟩, .int .i64 (q4 bs).1, .int .i64 (q5 bs).1, .int .i64 (q6 bs).1, .int .u64 ((q7 bs).1 : Int)]) := kb.put 6 _
  have K27 : Hid (Blk (w'.setCell ⟨g5, 6, none⟩ (.int .u64 ((q7 bs).1 : Int))) w.heap.size 24 #[.string ⟨#[]⟩, .string ⟨#[]⟩, .string ⟨#[]⟩, .int .i64 0, .int .i64 0, .int .i64 0, .int .u64 0]) := k2.frm hfs (fun e => by have := HG5.out; omega)
  have R7 : Hid (Rd 84 (w'.setCell ⟨g5, 6, none⟩ (.int .u64 ((q7 bs).1 : Int))) g AR bs (q7 bs).2) := Rd.keep (s := (q7 bs).2) r hfs HL5.out
  have BE7 : Hid (Below w.heap.size w (w'.setCell ⟨g5, 6, none⟩ (.int .u64 ((q7 bs).1 : Int)))) := BE6.out.trans ((f.below BE6.out.size (fun i hi e => by have := HO.out g (.inl rfl); omega)).trans (hfs.below (Nat.le_trans BE6.out.size f.size) (fun i hi e => by have := HG5.out; omega)))
  clear r f kb k2 hfs KB6 K26 R6 BE6
  go_wp2_with fail
  have HV : Hid (w'.setCell ⟨g5, 6, none⟩ (.int .u64 ((q7 bs).1 : Int)) = w'.setCell ⟨g5, 6, none⟩ (.int .u64 ((q7 bs).1 : Int))) := rfl
  clear q0 z0 HV
  generalize w'.setCell ⟨g5, 6, none⟩ (.int .u64 ((q7 bs).1 : Int)) = W at *
  refine (rerrR_any g AR bs (q7 bs).2 _ R7.out).mono ?_
  rintro e w' ⟨rfl, rfl⟩
  have HD : Hid (decErr bs = if (q7 bs).2.err = 0 then (if 0 < rLeft bs (q7 bs).2 then 1 else 0) else (q7 bs).2.err) := rfl
  have HDC : Hid (dec bs = if decErr bs = 0 then got bs else none_) := rfl
  have stz := store_rc (cs := #[.string ⟨#[]⟩, .string ⟨#[]⟩, .string ⟨#[]⟩, .int .i64 0, .int .i64 0, .int .i64 0, .int .u64 0]) K27.out rfl rfl rfl
  have stg := store_rc (cs := #[.string ⟨(q1 bs).1.toArray⟩, .string ⟨(q2 bs).1.toArray⟩, .string ⟨(q3 bs).1.toArray⟩, .int .i64 (q4 bs).1, .int .i64 (q5 bs).1, .int .i64 (q6 bs).1, .int .u64 ((q7 bs).1 : Int)]) K27.out rfl rfl rfl
  have lg := load_rc KB7.out rfl
  have BZ : Hid (∀ cs, Below w.heap.size w (W.setRow w.heap.size cs)) := fun cs => BE7.out.trans ((frm_setRow W w.heap.size cs).below BE7.out.size (fun i hi e => by omega))
  have BL : Hid (∀ cs, Blk (W.setRow w.heap.size cs) w.heap.size 24 cs) := fun cs => Blk_setRow K27.out cs
  by_cases he : (q7 bs).2.err = 0
  · have te : ((q7 bs).2.err != 0) = false := by simp [he]
    have HEr := Lib.hid he
    clear he
    go_wp2_with fail
    refine (rleftR_any g AR bs (q7 bs).2 _ R7.out).mono ?_
    rintro e w' ⟨rfl, q, rfl⟩
    have stz' : (storeRow 24 (.pointer (some ⟨w.heap.size, 0, none⟩)) (.agg #[.string ⟨#[]⟩, .string ⟨#[]⟩, .string ⟨#[]⟩, .int .i64 0, .int .i64 0, .int .i64 0, .int .u64 0])).run Try.prog (W.drewN q) = .ok () ((W.drewN q).setRow w.heap.size #[.string ⟨#[]⟩, .string ⟨#[]⟩, .string ⟨#[]⟩, .int .i64 0, .int .i64 0, .int .i64 0, .int .u64 0]) := store_rc (K27.out.drewN q) rfl rfl rfl
    have stg' : (storeRow 24 (.pointer (some ⟨w.heap.size, 0, none⟩)) (.agg #[.string ⟨(q1 bs).1.toArray⟩, .string ⟨(q2 bs).1.toArray⟩, .string ⟨(q3 bs).1.toArray⟩, .int .i64 (q4 bs).1, .int .i64 (q5 bs).1, .int .i64 (q6 bs).1, .int .u64 ((q7 bs).1 : Int)])).run Try.prog (W.drewN q) = .ok () ((W.drewN q).setRow w.heap.size #[.string ⟨(q1 bs).1.toArray⟩, .string ⟨(q2 bs).1.toArray⟩, .string ⟨(q3 bs).1.toArray⟩, .int .i64 (q4 bs).1, .int .i64 (q5 bs).1, .int .i64 (q6 bs).1, .int .u64 ((q7 bs).1 : Int)]) := store_rc (K27.out.drewN q) rfl rfl rfl
    have lg' : (loadRow 24 (.pointer (some ⟨g5, 0, none⟩))).run Try.prog (W.drewN q) = .ok (.agg #[.string ⟨(q1 bs).1.toArray⟩, .string ⟨(q2 bs).1.toArray⟩, .string ⟨(q3 bs).1.toArray⟩, .int .i64 (q4 bs).1, .int .i64 (q5 bs).1, .int .i64 (q6 bs).1, .int .u64 ((q7 bs).1 : Int)]) (W.drewN q) := load_rc (KB7.out.drewN q) rfl
    have BZ' : Hid (∀ cs, Below w.heap.size w ((W.drewN q).setRow w.heap.size cs)) := fun cs => (below_drewN BE7.out q).trans ((frm_setRow (W.drewN q) w.heap.size cs).below BE7.out.size (fun i hi e => by omega))
    have BL' : Hid (∀ cs, Blk ((W.drewN q).setRow w.heap.size cs) w.heap.size 24 cs) := fun cs => Blk_setRow (K27.out.drewN q) cs
    clear stz stg lg BZ BL
    by_cases hlf : 0 < rLeft bs (q7 bs).2
    · have HE1 : Hid (decErr bs = 1) := by show _ = _; rw [HD.out, if_pos HEr.out, if_pos hlf]
      have hli : (0 : Int) < (rLeft bs (q7 bs).2 : Int) := by omega
      go_wp2_with fail
      exact ret_rc2 Try.results21 rfl rfl (BL'.out _) rfl ⟨by rw [HDC.out, HE1.out]; rfl, BZ'.out _⟩
    · have HE1 : Hid (decErr bs = 0) := by show _ = _; rw [HD.out, if_pos HEr.out, if_neg hlf]
      have hli : (rLeft bs (q7 bs).2 : Int) = 0 := by omega
      have hll : rLeft bs (q7 bs).2 = 0 := by omega
      clear hlf
      go_wp2_with fail
      exact ret_rc2 Try.results21 rfl rfl (BL'.out _) rfl ⟨by rw [HDC.out, HE1.out]; rfl, BZ'.out _⟩
  · have te : ((q7 bs).2.err != 0) = true := by simp [he]
    have HEr := Lib.hid he
    have HE1 : Hid (decErr bs = (q7 bs).2.err) := by show _ = _; rw [HD.out, if_neg he]
    have HE2 : Hid (dec bs = none_) := by show _ = _; rw [HDC.out, if_neg (by rw [HE1.out]; exact he)]
    clear he
    go_wp2_with fail
    refine (rerrR_any g AR bs (q7 bs).2 _ R7.out).mono ?_
    rintro e w' ⟨rfl, rfl⟩
    go_wp2_with fail
    exact ret_rc2 Try.results21 rfl rfl (BL.out _) rfl ⟨by rw [HE2.out, HE1.out]; rfl, BZ.out _⟩
end Go.Proofs.Ytjnaooiklcbemaa.Rt
