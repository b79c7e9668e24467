/-
  The walks of Decode of package journal and of its reference. Conditions: the bytes lie in memory; at most 100000000 of them.
-/
import Derived.Test.YthpmngdpgniehaaJrLoc
import Derived.Test.YthpmngdpgniehaaJrDec
import Derived.Test.YthpmngdpgniehaaWrR5
import Derived.Test.YthpmngdpgniehaaWrS4
import Derived.Laws.ResultCell
namespace Go.Proofs.Ythpmngdpgniehaa.Jr
open Go.RowKit Go.Proofs.Ythpmngdpgniehaa.Mem Go.Proofs.Ythpmngdpgniehaa.Wr Go.Proofs.Ythpmngdpgniehaa.Opn

def storeRow (t : TypeId) (p v : Value) : Sem Unit := Instr.storeAt t p v
theorem exec_store_rec (ρ : Operand → Value) (dst : Option Tmp) (x y : Operand) (ty : TypeId) (pos : String) (after : Array Edge) (guard : Option (Nat × Bool)) :
    execOp ρ { dst, op := .store 27 x y, type := ty, pos, after, guard } = (do storeRow 27 (ρ x) (ρ y); pure .skip) := rfl
attribute [local go_sem ↓] exec_load_rec exec_store_rec
theorem store_rec {W : World} {g : Nat} {old cs : Array Value} (h : Blk W g 27 old) (ho : old.size = 12) (hs : cs.size = 12) (h1 : cs.toList.all (·.oneCell') = true) : (storeRow 27 (.pointer (some ⟨g, 0, none⟩)) (.agg cs)).run Try.prog W = .ok () (W.setRow g cs) := by
  unfold storeRow
  simp only [Instr.storeAt, Instr.sureAddr, Sem.run_bind, Sem.run_pure, Result.andThen_ok, run_storeVar_row W g 27 27 old cs h (size_rec.trans (congrArg some hs.symm)) (ho.trans hs.symm) (by rw [← Array.all_toList]; exact h1)]
theorem load_blk {W : World} {g : Nat} {cs : Array Value} (h : Blk W g 27 cs) (hs : cs.size = 12) : (loadRow 27 (.pointer (some ⟨g, 0, none⟩))).run Try.prog W = .ok (.agg cs) W :=
  load_rec (fun j v hv => by rw [Nat.zero_add, h.cell j, hv]) hs
theorem Blk_setRow {w : World} {g : Nat} {t : TypeId} {old : Array Value} (h : Blk w g t old) (cs : Array Value) : Blk (w.setRow g cs) g t cs := setRow_heap w g old cs t (0, 0) h
theorem frm_setRow (w : World) (g : Nat) (cs : Array Value) : Frm (· = g) w (w.setRow g cs) := ⟨rfl, rfl, rfl, by simp, fun i _ hn => setRow_other w g i cs (fun e => hn (by omega))⟩
theorem is_none (W : World) : IsRec W #[.int .i64 0, .int .i64 0, .int .i64 0, .int .i64 0, .int .i64 0, .string ⟨#[]⟩, .string ⟨#[]⟩, .slice none 0 0, .int .u64 0, .int .u64 0, .string ⟨#[]⟩, .slice none 0 0] none_ := ⟨none, 0, none, 0, rfl, Sl.nil_ _ _ _, Sl.nil_ _ _ _, by show 0 ≤ _; omega, by show 0 ≤ _; omega⟩
/-- the lists of a record lie in blocks of L. -/
def Lst (L : Nat → Prop) (cs : Array Value) : Prop := ∀ a n c, 0 < n → (cs[7]? = some (.slice (some a) n c) ∨ cs[11]? = some (.slice (some a) n c)) → L a.block
theorem lst_two {L : Nat → Prop} {v0 v1 v2 v3 v4 v5 v6 v8 v9 v10 : Value} {n7 n11 : Nat} {A7 A11 : Option Addr} {c7 c11 : Nat} (h7 : ∀ a, A7 = some a → L a.block) (h11 : ∀ a, A11 = some a → L a.block) : Lst L #[v0, v1, v2, v3, v4, v5, v6, .slice A7 n7 c7, v8, v9, v10, .slice A11 n11 c11] := by
  intro a n c _ h
  rcases h with h | h
  · injection h with h
    injection h with h _ _
    exact h7 a h
  · injection h with h
    injection h with h _ _
    exact h11 a h
theorem lst_zero (L : Nat → Prop) : Lst L #[.int .i64 0, .int .i64 0, .int .i64 0, .int .i64 0, .int .i64 0, .string ⟨#[]⟩, .string ⟨#[]⟩, .slice none 0 0, .int .u64 0, .int .u64 0, .string ⟨#[]⟩, .slice none 0 0] := lst_two (fun a h => by cases h) (fun a h => by cases h)
/-- what Decode hands back. -/
def DecPost (bs : List UInt8) (w : World) (e : Ending) (w' : World) : Prop := ∃ cs, e = .returned (.tuple #[.agg cs, .int .i64 (decErr bs)]) ∧ IsRec w' cs (dec bs) ∧ Below w.heap.size w w' ∧ Lst (fun i => w.heap.size ≤ i) cs
theorem ret_rec2 {fn : Func} {p u : Tmp} {R : Ending → World → Prop} {a : Act} {w : World} {g : Nat} {cs : Array Value} (h : fn.results = #[.cell p 27, .tmp u]) (hd : a.defers = [])
    (hp : a.tmps.getD p undef = .pointer (some ⟨g, 0, none⟩)) (hg : Blk w g 27 cs) (hs : cs.size = 12) (hR : R (.returned (.tuple #[.agg cs, a.tmps.getD u undef])) w) : bodyPost Try.prog fn R .ret a w := by
  have hr : (results fn a.tmps).run Try.prog w = .ok (.tuple #[.agg cs, a.tmps.getD u undef]) w := by
    rw [results_cell_tmp h, hp]
    have hl := run_loadVar_row (P := Try.prog) w g 27 27 cs (0, 0) _ hg Try.underlying27 rfl (size_rec.trans (congrArg some hs.symm))
    simp [asAddr, hl]
  exact bodyPost_ret hr hd hR

set_option maxRecDepth 100000 in
set_option maxHeartbeats 8000000 in
theorem decode_any (bs : List UInt8) (A : Option Addr) (n c : Nat) (w : World) (hs : Sl w 1 A n (byts bs)) (hl : n ≤ 100000000) :
    Calls Try.prog 22 #[.slice A n c] w (DecPost bs w) := by
  have hbl : bs.length = n := by have := hs.1; simpa [byts_len] using this
  have HN : Hid (bs.length ≤ 9223372036854775807) := Lib.hid (by omega)
  obtain ⟨W0, hW0⟩ : ∃ W0, W0 = w.alloc (.cells #[.int .i64 0, .int .i64 0, .int .i64 0, .int .i64 0, .int .i64 0, .string ⟨#[]⟩, .string ⟨#[]⟩, .slice none 0 0, .int .u64 0, .int .u64 0, .string ⟨#[]⟩, .slice none 0 0] 27) := ⟨_, rfl⟩
  have K2 : Hid (Blk W0 w.heap.size 27 #[.int .i64 0, .int .i64 0, .int .i64 0, .int .i64 0, .int .i64 0, .string ⟨#[]⟩, .string ⟨#[]⟩, .slice none 0 0, .int .u64 0, .int .u64 0, .string ⟨#[]⟩, .slice none 0 0]) := by rw [hW0]; exact Blk.new _ _ _
  have BE : Hid (Below w.heap.size w W0) := by rw [hW0]; exact (Below.refl _ w).alloc (Nat.le_refl _) _
  have HS : Hid (Sl W0 1 A n (byts bs)) := by rw [hW0]; exact hs.alloc _
  have HW := Lib.hid hW0
  clear hW0 hs hbl
  go_enter Try.func22, Try.ntmps22
  go_wp2_with fail
  rw [← HW.out]
  refine (newReader_any bs A n c _ HS.out (by omega)).mono ?_
  rintro e w1 ⟨g, AR, rfl, hown, hrd, hb⟩
  have HO : Hid (∀ k, rown g AR k → w.heap.size < k) := fun k hk => Nat.lt_of_lt_of_le K2.out.lt (hown k hk)
  have HL : Hid (∀ k, rown g AR k → k < w1.heap.size) := fun k hk => hrd.rown_lt hk
  have HGL : Hid (w.heap.size < w1.heap.size) := Nat.lt_of_lt_of_le K2.out.lt hb.size
  have K2b : Hid (Blk w1 w.heap.size 27 #[.int .i64 0, .int .i64 0, .int .i64 0, .int .i64 0, .int .i64 0, .string ⟨#[]⟩, .string ⟨#[]⟩, .slice none 0 0, .int .u64 0, .int .u64 0, .string ⟨#[]⟩, .slice none 0 0]) := K2.out.below hb K2.out.lt
  have BEb : Hid (Below w.heap.size w w1) := BE.out.trans (hb.mono BE.out.size)
  have Rb : Hid (Rd 99 w1 g AR bs ⟨0, 0⟩) := hrd
  clear hown hrd hb HS HW K2 BE
  obtain ⟨g5, hg5⟩ : ∃ g5, g5 = w1.heap.size := ⟨_, rfl⟩
  obtain ⟨W, hW⟩ : ∃ W, W = w1.alloc (.cells #[.int .i64 0, .int .i64 0, .int .i64 0, .int .i64 0, .int .i64 0, .string ⟨#[]⟩, .string ⟨#[]⟩, .slice none 0 0, .int .u64 0, .int .u64 0, .string ⟨#[]⟩, .slice none 0 0] 27) := ⟨_, rfl⟩
  have KB0 : Hid (Blk W g5 27 #[.int .i64 0, .int .i64 0, .int .i64 0, .int .i64 0, .int .i64 0, .string ⟨#[]⟩, .string ⟨#[]⟩, .slice none 0 0, .int .u64 0, .int .u64 0, .string ⟨#[]⟩, .slice none 0 0]) := by rw [hW, hg5]; exact Blk.new _ _ _
  have hf0 : Frm (fun _ => False) w1 W := by rw [hW]; exact (Frm.refl _ _).alloc _
  have K20 : Hid (Blk W w.heap.size 27 #[.int .i64 0, .int .i64 0, .int .i64 0, .int .i64 0, .int .i64 0, .string ⟨#[]⟩, .string ⟨#[]⟩, .slice none 0 0, .int .u64 0, .int .u64 0, .string ⟨#[]⟩, .slice none 0 0]) := K2b.out.frm hf0 (fun h => h)
  have R0 : Hid (Rd 99 W g AR bs ⟨0, 0⟩) := Rb.out.keep hf0 (fun _ _ h => h)
  have BE0 : Hid (Below w.heap.size w W) := BEb.out.trans (hf0.below (B := w.heap.size) BEb.out.size (fun _ _ h => h))
  have HG5 : Hid (w.heap.size < g5) := by rw [hg5]; exact HGL.out
  have HL5 : Hid (∀ k, rown g AR k → k ≠ g5) := fun k hk e => by have := HL.out k hk; omega
  have HW := Lib.hid hW
  clear hW hf0 K2b BEb Rb HL HGL
  go_wp2_with fail
  rw [← HW.out, ← hg5]
  clear hg5 HW
  have CC : Hid (Calls Try.prog 56 #[.pointer (some ⟨g, 0, none⟩)] W (RdPost 99 g AR bs (.int .i64 (q1 bs).1) (q1 bs).2 W)) := rint_any g AR bs ⟨0, 0⟩ _ R0.out
  refine CC.out.mono ?_
  clear CC
  rintro e w' ⟨rfl, r, f⟩
  have kb := KB0.out.frm f (fun e => HL5.out g (.inl rfl) e.symm)
  have k2 := K20.out.frm f (fun e => by have := HO.out g (.inl rfl); omega)
  have q0 : w'.cell? ⟨g5, 0, none⟩ = some (.int .i64 0) := kb.cell 0
  have z0 : w'.frozen? ⟨g5, 0, none⟩ = false := kb.frozen 0
  have hfs : Frm (· = g5) w' (w'.setCell ⟨g5, 0, none⟩ (.int .i64 (q1 bs).1)) := (Frm.refl (· = g5) w').setCell (fun _ => rfl) _
  have KB1 : Hid (Blk (w'.setCell ⟨g5, 0, none⟩ (.int .i64 (q1 bs).1)) g5 27 #[.int .i64 (q1 bs).1, .int .i64 0, .int .i64 0, .int .i64 0, .int .i64 0, .string ⟨#[]⟩, .string ⟨#[]⟩, .slice none 0 0, .int .u64 0, .int .u64 0, .string ⟨#[]⟩, .slice none 0 0]) := kb.put 0 _
  have K21 : Hid (Blk (w'.setCell ⟨g5, 0, none⟩ (.int .i64 (q1 bs).1)) w.heap.size 27 #[.int .i64 0, .int .i64 0, .int .i64 0, .int .i64 0, .int .i64 0, .string ⟨#[]⟩, .string ⟨#[]⟩, .slice none 0 0, .int .u64 0, .int .u64 0, .string ⟨#[]⟩, .slice none 0 0]) := k2.frm hfs (fun e => by have := HG5.out; omega)
  have R1 : Hid (Rd 99 (w'.setCell ⟨g5, 0, none⟩ (.int .i64 (q1 bs).1)) g AR bs (q1 bs).2) := Rd.keep (s := (q1 bs).2) r hfs HL5.out
  have BE1 : Hid (Below w.heap.size w (w'.setCell ⟨g5, 0, none⟩ (.int .i64 (q1 bs).1))) := BE0.out.trans ((f.below BE0.out.size (fun i hi e => by have := HO.out g (.inl rfl); omega)).trans (hfs.below (Nat.le_trans BE0.out.size f.size) (fun i hi e => by have := HG5.out; omega)))
  clear r f kb k2 hfs KB0 K20 R0 BE0
  go_wp2_with fail
  clear q0 z0
  generalize w'.setCell ⟨g5, 0, none⟩ (.int .i64 (q1 bs).1) = W at *
  have CC : Hid (Calls Try.prog 56 #[.pointer (some ⟨g, 0, none⟩)] W (RdPost 99 g AR bs (.int .i64 (q2 bs).1) (q2 bs).2 W)) := rint_any g AR bs (q1 bs).2 _ R1.out
  refine CC.out.mono ?_
  clear CC
  rintro e w' ⟨rfl, r, f⟩
  have kb := KB1.out.frm f (fun e => HL5.out g (.inl rfl) e.symm)
  have k2 := K21.out.frm f (fun e => by have := HO.out g (.inl rfl); omega)
  have q0 : w'.cell? ⟨g5, 1, none⟩ = some (.int .i64 0) := kb.cell 1
  have z0 : w'.frozen? ⟨g5, 1, none⟩ = false := kb.frozen 1
  have hfs : Frm (· = g5) w' (w'.setCell ⟨g5, 1, none⟩ (.int .i64 (q2 bs).1)) := (Frm.refl (· = g5) w').setCell (fun _ => rfl) _
  have KB2 : Hid (Blk (w'.setCell ⟨g5, 1, none⟩ (.int .i64 (q2 bs).1)) g5 27 #[.int .i64 (q1 bs).1, .int .i64 (q2 bs).1, .int .i64 0, .int .i64 0, .int .i64 0, .string ⟨#[]⟩, .string ⟨#[]⟩, .slice none 0 0, .int .u64 0, .int .u64 0, .string ⟨#[]⟩, .slice none 0 0]) := kb.put 1 _
  have K22 : Hid (Blk (w'.setCell ⟨g5, 1, none⟩ (.int .i64 (q2 bs).1)) w.heap.size 27 #[.int .i64 0, .int .i64 0, .int .i64 0, .int .i64 0, .int .i64 0, .string ⟨#[]⟩, .string ⟨#[]⟩, .slice none 0 0, .int .u64 0, .int .u64 0, .string ⟨#[]⟩, .slice none 0 0]) := k2.frm hfs (fun e => by have := HG5.out; omega)
  have R2 : Hid (Rd 99 (w'.setCell ⟨g5, 1, none⟩ (.int .i64 (q2 bs).1)) g AR bs (q2 bs).2) := Rd.keep (s := (q2 bs).2) r hfs HL5.out
  have BE2 : Hid (Below w.heap.size w (w'.setCell ⟨g5, 1, none⟩ (.int .i64 (q2 bs).1))) := BE1.out.trans ((f.below BE1.out.size (fun i hi e => by have := HO.out g (.inl rfl); omega)).trans (hfs.below (Nat.le_trans BE1.out.size f.size) (fun i hi e => by have := HG5.out; omega)))
  clear r f kb k2 hfs KB1 K21 R1 BE1
  go_wp2_with fail
  clear q0 z0
  generalize w'.setCell ⟨g5, 1, none⟩ (.int .i64 (q2 bs).1) = W at *
  have CC : Hid (Calls Try.prog 56 #[.pointer (some ⟨g, 0, none⟩)] W (RdPost 99 g AR bs (.int .i64 (q3 bs).1) (q3 bs).2 W)) := rint_any g AR bs (q2 bs).2 _ R2.out
  refine CC.out.mono ?_
  clear CC
  rintro e w' ⟨rfl, r, f⟩
  have kb := KB2.out.frm f (fun e => HL5.out g (.inl rfl) e.symm)
  have k2 := K22.out.frm f (fun e => by have := HO.out g (.inl rfl); omega)
  have q0 : w'.cell? ⟨g5, 2, none⟩ = some (.int .i64 0) := kb.cell 2
  have z0 : w'.frozen? ⟨g5, 2, none⟩ = false := kb.frozen 2
  have hfs : Frm (· = g5) w' (w'.setCell ⟨g5, 2, none⟩ (.int .i64 (q3 bs).1)) := (Frm.refl (· = g5) w').setCell (fun _ => rfl) _
  have KB3 : Hid (Blk (w'.setCell ⟨g5, 2, none⟩ (.int .i64 (q3 bs).1)) g5 27 #[.int .i64 (q1 bs).1, .int .i64 (q2 bs).1, .int .i64 (q3 bs).1, .int .i64 0, .int .i64 0, .string ⟨#[]⟩, .string ⟨#[]⟩, .slice none 0 0, .int .u64 0, .int .u64 0, .string ⟨#[]⟩, .slice none 0 0]) := kb.put 2 _
  have K23 : Hid (Blk (w'.setCell ⟨g5, 2, none⟩ (.int .i64 (q3 bs).1)) w.heap.size 27 #[.int .i64 0, .int .i64 0, .int .i64 0, .int .i64 0, .int .i64 0, .string ⟨#[]⟩, .string ⟨#[]⟩, .slice none 0 0, .int .u64 0, .int .u64 0, .string ⟨#[]⟩, .slice none 0 0]) := k2.frm hfs (fun e => by have := HG5.out; omega)
  have R3 : Hid (Rd 99 (w'.setCell ⟨g5, 2, none⟩ (.int .i64 (q3 bs).1)) g AR bs (q3 bs).2) := Rd.keep (s := (q3 bs).2) r hfs HL5.out
  have BE3 : Hid (Below w.heap.size w (w'.setCell ⟨g5, 2, none⟩ (.int .i64 (q3 bs).1))) := BE2.out.trans ((f.below BE2.out.size (fun i hi e => by have := HO.out g (.inl rfl); omega)).trans (hfs.below (Nat.le_trans BE2.out.size f.size) (fun i hi e => by have := HG5.out; omega)))
  clear r f kb k2 hfs KB2 K22 R2 BE2
  go_wp2_with fail
  clear q0 z0
  generalize w'.setCell ⟨g5, 2, none⟩ (.int .i64 (q3 bs).1) = W at *
  have CC : Hid (Calls Try.prog 56 #[.pointer (some ⟨g, 0, none⟩)] W (RdPost 99 g AR bs (.int .i64 (q4 bs).1) (q4 bs).2 W)) := rint_any g AR bs (q3 bs).2 _ R3.out
  refine CC.out.mono ?_
  clear CC
  rintro e w' ⟨rfl, r, f⟩
  have kb := KB3.out.frm f (fun e => HL5.out g (.inl rfl) e.symm)
  have k2 := K23.out.frm f (fun e => by have := HO.out g (.inl rfl); omega)
  have q0 : w'.cell? ⟨g5, 3, none⟩ = some (.int .i64 0) := kb.cell 3
  have z0 : w'.frozen? ⟨g5, 3, none⟩ = false := kb.frozen 3
  have hfs : Frm (· = g5) w' (w'.setCell ⟨g5, 3, none⟩ (.int .i64 (q4 bs).1)) := (Frm.refl (· = g5) w').setCell (fun _ => rfl) _
  have KB4 : Hid (Blk (w'.setCell ⟨g5, 3, none⟩ (.int .i64 (q4 bs).1)) g5 27 #[.int .i64 (q1 bs).1, .int .i64 (q2 bs).1, .int .i64 (q3 bs).1, .int .i64 (q4 bs).1, .int .i64 0, .string ⟨#[]⟩, .string ⟨#[]⟩, .slice none 0 0, .int .u64 0, .int .u64 0, .string ⟨#[]⟩, .slice none 0 0]) := kb.put 3 _
  have K24 : Hid (Blk (w'.setCell ⟨g5, 3, none⟩ (.int .i64 (q4 bs).1)) w.heap.size 27 #[.int .i64 0, .int .i64 0, .int .i64 0, .int .i64 0, .int .i64 0, .string ⟨#[]⟩, .string ⟨#[]⟩, .slice none 0 0, .int .u64 0, .int .u64 0, .string ⟨#[]⟩, .slice none 0 0]) := k2.frm hfs (fun e => by have := HG5.out; omega)
  have R4 : Hid (Rd 99 (w'.setCell ⟨g5, 3, none⟩ (.int .i64 (q4 bs).1)) g AR bs (q4 bs).2) := Rd.keep (s := (q4 bs).2) r hfs HL5.out
  have BE4 : Hid (Below w.heap.size w (w'.setCell ⟨g5, 3, none⟩ (.int .i64 (q4 bs).1))) := BE3.out.trans ((f.below BE3.out.size (fun i hi e => by have := HO.out g (.inl rfl); omega)).trans (hfs.below (Nat.le_trans BE3.out.size f.size) (fun i hi e => by have := HG5.out; omega)))
  clear r f kb k2 hfs KB3 K23 R3 BE3
  go_wp2_with fail
  clear q0 z0
  generalize w'.setCell ⟨g5, 3, none⟩ (.int .i64 (q4 bs).1) = W at *
  have CC : Hid (Calls Try.prog 56 #[.pointer (some ⟨g, 0, none⟩)] W (RdPost 99 g AR bs (.int .i64 (q5 bs).1) (q5 bs).2 W)) := rint_any g AR bs (q4 bs).2 _ R4.out
  refine CC.out.mono ?_
  clear CC
  rintro e w' ⟨rfl, r, f⟩
  have kb := KB4.out.frm f (fun e => HL5.out g (.inl rfl) e.symm)
  have k2 := K24.out.frm f (fun e => by have := HO.out g (.inl rfl); omega)
  have q0 : w'.cell? ⟨g5, 4, none⟩ = some (.int .i64 0) := kb.cell 4
  have z0 : w'.frozen? ⟨g5, 4, none⟩ = false := kb.frozen 4
  have hfs : Frm (· = g5) w' (w'.setCell ⟨g5, 4, none⟩ (.int .i64 (q5 bs).1)) := (Frm.refl (· = g5) w').setCell (fun _ => rfl) _
  have KB5 : Hid (Blk (w'.setCell ⟨g5, 4, none⟩ (.int .i64 (q5 bs).1)) g5 27 #[.int .i64 (q1 bs).1, .int .i64 (q2 bs).1, .int .i64 (q3 bs).1, .int .i64 (q4 bs).1, .int .i64 (q5 bs).1, .string ⟨#[]⟩, .string ⟨#[]⟩, .slice none 0 0, .int .u64 0, .int .u64 0, .string ⟨#[]⟩, .slice none 0 0]) := kb.put 4 _
  have K25 : Hid (Blk (w'.setCell ⟨g5, 4, none⟩ (.int .i64 (q5 bs).1)) w.heap.size 27 #[.int .i64 0, .int .i64 0, .int .i64 0, .int .i64 0, .int .i64 0, .string ⟨#[]⟩, .string ⟨#[]⟩, .slice none 0 0, .int .u64 0, .int .u64 0, .string ⟨#[]⟩, .slice none 0 0]) := k2.frm hfs (fun e => by have := HG5.out; omega)
  have R5 : Hid (Rd 99 (w'.setCell ⟨g5, 4, none⟩ (.int .i64 (q5 bs).1)) g AR bs (q5 bs).2) := Rd.keep (s := (q5 bs).2) r hfs HL5.out
  have BE5 : Hid (Below w.heap.size w (w'.setCell ⟨g5, 4, none⟩ (.int .i64 (q5 bs).1))) := BE4.out.trans ((f.below BE4.out.size (fun i hi e => by have := HO.out g (.inl rfl); omega)).trans (hfs.below (Nat.le_trans BE4.out.size f.size) (fun i hi e => by have := HG5.out; omega)))
  clear r f kb k2 hfs KB4 K24 R4 BE4
  go_wp2_with fail
  clear q0 z0
  generalize w'.setCell ⟨g5, 4, none⟩ (.int .i64 (q5 bs).1) = W at *
  have CC : Hid (Calls Try.prog 57 #[.pointer (some ⟨g, 0, none⟩), .int .i64 24] W (RdPost 99 g AR bs (.string ⟨(q6 bs).1.toArray⟩) (q6 bs).2 W)) := rtext_any g AR bs 24 (q5 bs).2 _ R5.out ⟨by omega, by omega⟩
  refine CC.out.mono ?_
  clear CC
  rintro e w' ⟨rfl, r, f⟩
  have kb := KB5.out.frm f (fun e => HL5.out g (.inl rfl) e.symm)
  have k2 := K25.out.frm f (fun e => by have := HO.out g (.inl rfl); omega)
  have q0 : w'.cell? ⟨g5, 5, none⟩ = some (.string ⟨#[]⟩) := kb.cell 5
  have z0 : w'.frozen? ⟨g5, 5, none⟩ = false := kb.frozen 5
  have hfs : Frm (· = g5) w' (w'.setCell ⟨g5, 5, none⟩ (.string ⟨(q6 bs).1.toArray⟩)) := (Frm.refl (· = g5) w').setCell (fun _ => rfl) _
  have KB6 : Hid (Blk (w'.setCell ⟨g5, 5, none⟩ (.string ⟨(q6 bs).1.toArray⟩)) g5 27 #[.int .i64 (q1 bs).1, .int .i64 (q2 bs).1, .int .i64 (q3 bs).1, .int .i64 (q4 bs).1, .int .i64 (q5 bs).1, .string ⟨(q6 bs).1.toArray⟩, .string ⟨#[]⟩, .slice none 0 0, .int .u64 0, .int .u64 0, .string ⟨#[]⟩, .slice none 0 0]) := kb.put 5 _
  have K26 : Hid (Blk (w'.setCell ⟨g5, 5, none⟩ (.string ⟨(q6 bs).1.toArray⟩)) w.heap.size 27 #[.int .i64 0, .int .i64 0, .int .i64 0, .int .i64 0, .int .i64 0, .string ⟨#[]⟩, .string ⟨#[]⟩, .slice none 0 0, .int .u64 0, .int .u64 0, .string ⟨#[]⟩, .slice none 0 0]) := k2.frm hfs (fun e => by have := HG5.out; omega)
  have R6 : Hid (Rd 99 (w'.setCell ⟨g5, 5, none⟩ (.string ⟨(q6 bs).1.toArray⟩)) g AR bs (q6 bs).2) := Rd.keep (s := (q6 bs).2) r hfs HL5.out
  have BE6 : Hid (Below w.heap.size w (w'.setCell ⟨g5, 5, none⟩ (.string ⟨(q6 bs).1.toArray⟩))) := BE5.out.trans ((f.below BE5.out.size (fun i hi e => by have := HO.out g (.inl rfl); omega)).trans (hfs.below (Nat.le_trans BE5.out.size f.size) (fun i hi e => by have := HG5.out; omega)))
  clear r f kb k2 hfs KB5 K25 R5 BE5
  go_wp2_with fail
  clear q0 z0
  generalize w'.setCell ⟨g5, 5, none⟩ (.string ⟨(q6 bs).1.toArray⟩) = W at *
  have CC : Hid (Calls Try.prog 57 #[.pointer (some ⟨g, 0, none⟩), .int .i64 32768] W (RdPost 99 g AR bs (.string ⟨(q7 bs).1.toArray⟩) (q7 bs).2 W)) := rtext_any g AR bs 32768 (q6 bs).2 _ R6.out ⟨by omega, by omega⟩
  refine CC.out.mono ?_
  clear CC
  rintro e w' ⟨rfl, r, f⟩
  have kb := KB6.out.frm f (fun e => HL5.out g (.inl rfl) e.symm)
  have k2 := K26.out.frm f (fun e => by have := HO.out g (.inl rfl); omega)
  have q0 : w'.cell? ⟨g5, 6, none⟩ = some (.string ⟨#[]⟩) := kb.cell 6
  have z0 : w'.frozen? ⟨g5, 6, none⟩ = false := kb.frozen 6
  have hfs : Frm (· = g5) w' (w'.setCell ⟨g5, 6, none⟩ (.string ⟨(q7 bs).1.toArray⟩)) := (Frm.refl (· = g5) w').setCell (fun _ => rfl) _
  have KB7 : Hid (Blk (w'.setCell ⟨g5, 6, none⟩ (.string ⟨(q7 bs).1.toArray⟩)) g5 27 #[.int .i64 (q1 bs).1, .int .i64 (q2 bs).1, .int .i64 (q3 bs).1, .int .i64 (q4 bs).1, .int .i64 (q5 bs).1, .string ⟨(q6 bs).1.toArray⟩, .string ⟨(q7 bs).1.toArray⟩, .slice none 0 0, .int .u64 0, .int .u64 0, .string ⟨#[]⟩, .slice none 0 0]) := kb.put 6 _
  have K27 : Hid (Blk (w'.setCell ⟨g5, 6, none⟩ (.string ⟨(q7 bs).1.toArray⟩)) w.heap.size 27 #[.int .i64 0, .int .i64 0, .int .i64 0, .int .i64 0, .int .i64 0, .string ⟨#[]⟩, .string ⟨#[]⟩, .slice none 0 0, .int .u64 0, .int .u64 0, .string ⟨#[]⟩, .slice none 0 0]) := k2.frm hfs (fun e => by have := HG5.out; omega)
  have R7 : Hid (Rd 99 (w'.setCell ⟨g5, 6, none⟩ (.string ⟨(q7 bs).1.toArray⟩)) g AR bs (q7 bs).2) := Rd.keep (s := (q7 bs).2) r hfs HL5.out
  have BE7 : Hid (Below w.heap.size w (w'.setCell ⟨g5, 6, none⟩ (.string ⟨(q7 bs).1.toArray⟩))) := BE6.out.trans ((f.below BE6.out.size (fun i hi e => by have := HO.out g (.inl rfl); omega)).trans (hfs.below (Nat.le_trans BE6.out.size f.size) (fun i hi e => by have := HG5.out; omega)))
  clear r f kb k2 hfs KB6 K26 R6 BE6
  go_wp2_with fail
  clear q0 z0
  generalize w'.setCell ⟨g5, 6, none⟩ (.string ⟨(q7 bs).1.toArray⟩) = W at *
  have CC : Hid (Calls Try.prog 58 #[.pointer (some ⟨g, 0, none⟩), .int .i64 256] W (RdIntsPost 99 g AR bs (q8 bs).1 (q8 bs).2 W)) := rints_any g AR bs 256 (q7 bs).2 _ R7.out ⟨by omega, by omega⟩
  refine CC.out.mono ?_
  clear CC
  rintro e w' ⟨x, rfl, ho, hk, r, f⟩
  obtain ⟨A7, c7, rfl, hsl⟩ := own_form ho
  have N7 : Hid (∀ a, A7 = some a → w.heap.size < a.block ∧ a.block ≠ g ∧ a.block ≠ g5) := Lib.hid (fun a ha => by
    have h1 := hk a.block (by rw [ha]; rfl)
    have h2 := R7.out.rown_lt (.inl rfl)
    have h3 := KB7.out.lt
    have h4 := HG5.out
    exact ⟨by omega, by omega, by omega⟩)
  have S7_7 := Lib.hid hsl
  clear ho hk hsl
  have kb := KB7.out.frm f (fun e => HL5.out g (.inl rfl) e.symm)
  have k2 := K27.out.frm f (fun e => by have := HO.out g (.inl rfl); omega)
  have q0 : w'.cell? ⟨g5, 7, none⟩ = some (.slice none 0 0) := kb.cell 7
  have z0 : w'.frozen? ⟨g5, 7, none⟩ = false := kb.frozen 7
  have hfs : Frm (· = g5) w' (w'.setCell ⟨g5, 7, none⟩ (.slice A7 (q8 bs).1.length c7)) := (Frm.refl (· = g5) w').setCell (fun _ => rfl) _
  have KB8 : Hid (Blk (w'.setCell ⟨g5, 7, none⟩ (.slice A7 (q8 bs).1.length c7)) g5 27 #[.int .i64 (q1 bs).1, .int .i64 (q2 bs).1, .int .i64 (q3 bs).1, .int .i64 (q4 bs).1, .int .i64 (q5 bs).1, .string ⟨(q6 bs).1.toArray⟩, .string ⟨(q7 bs).1.toArray⟩, .slice A7 (q8 bs).1.length c7, .int .u64 0, .int .u64 0, .string ⟨#[]⟩, .slice none 0 0]) := kb.put 7 _
  have K28 : Hid (Blk (w'.setCell ⟨g5, 7, none⟩ (.slice A7 (q8 bs).1.length c7)) w.heap.size 27 #[.int .i64 0, .int .i64 0, .int .i64 0, .int .i64 0, .int .i64 0, .string ⟨#[]⟩, .string ⟨#[]⟩, .slice none 0 0, .int .u64 0, .int .u64 0, .string ⟨#[]⟩, .slice none 0 0]) := k2.frm hfs (fun e => by have := HG5.out; omega)
  have R8 : Hid (Rd 99 (w'.setCell ⟨g5, 7, none⟩ (.slice A7 (q8 bs).1.length c7)) g AR bs (q8 bs).2) := Rd.keep (s := (q8 bs).2) r hfs HL5.out
  have BE8 : Hid (Below w.heap.size w (w'.setCell ⟨g5, 7, none⟩ (.slice A7 (q8 bs).1.length c7))) := BE7.out.trans ((f.below BE7.out.size (fun i hi e => by have := HO.out g (.inl rfl); omega)).trans (hfs.below (Nat.le_trans BE7.out.size f.size) (fun i hi e => by have := HG5.out; omega)))
  have S7_8 := Lib.hid (S7_7.out.frm hfs (fun a ha => (N7.out a ha).2.2))
  clear r f kb k2 hfs KB7 K27 R7 BE7 S7_7
  go_wp2_with fail
  clear q0 z0
  generalize w'.setCell ⟨g5, 7, none⟩ (.slice A7 (q8 bs).1.length c7) = W at *
  have CC : Hid (Calls Try.prog 59 #[.pointer (some ⟨g, 0, none⟩)] W (RdPost 99 g AR bs (.int .u64 ((q9 bs).1 : Int)) (q9 bs).2 W)) := ruint_any g AR bs (q8 bs).2 _ R8.out
  refine CC.out.mono ?_
  clear CC
  rintro e w' ⟨rfl, r, f⟩
  have kb := KB8.out.frm f (fun e => HL5.out g (.inl rfl) e.symm)
  have k2 := K28.out.frm f (fun e => by have := HO.out g (.inl rfl); omega)
  have q0 : w'.cell? ⟨g5, 8, none⟩ = some (.int .u64 0) := kb.cell 8
  have z0 : w'.frozen? ⟨g5, 8, none⟩ = false := kb.frozen 8
  have hfs : Frm (· = g5) w' (w'.setCell ⟨g5, 8, none⟩ (.int .u64 ((q9 bs).1 : Int))) := (Frm.refl (· = g5) w').setCell (fun _ => rfl) _
  have KB9 : Hid (Blk (w'.setCell ⟨g5, 8, none⟩ (.int .u64 ((q9 bs).1 : Int))) g5 27 #[.int .i64 (q1 bs).1, .int .i64 (q2 bs).1, .int .i64 (q3 bs).1, .int .i64 (q4 bs).1, .int .i64 (q5 bs).1, .string ⟨(q6 bs).1.toArray⟩, .string ⟨(q7 bs).1.toArray⟩, .slice A7 (q8 bs).1.length c7, .int .u64 ((q9 bs).1 : Int), .int .u64 0, .string ⟨#[]⟩, .slice none 0 0]) := kb.put 8 _
  have K29 : Hid (Blk (w'.setCell ⟨g5, 8, none⟩ (.int .u64 ((q9 bs).1 : Int))) w.heap.size 27 #[.int .i64 0, .int .i64 0, .int .i64 0, .int .i64 0, .int .i64 0, .string ⟨#[]⟩, .string ⟨#[]⟩, .slice none 0 0, .int .u64 0, .int .u64 0, .string ⟨#[]⟩, .slice none 0 0]) := k2.frm hfs (fun e => by have := HG5.out; omega)
  have R9 : Hid (Rd 99 (w'.setCell ⟨g5, 8, none⟩ (.int .u64 ((q9 bs).1 : Int))) g AR bs (q9 bs).2) := Rd.keep (s := (q9 bs).2) r hfs HL5.out
  have BE9 : Hid (Below w.heap.size w (w'.setCell ⟨g5, 8, none⟩ (.int .u64 ((q9 bs).1 : Int)))) := BE8.out.trans ((f.below BE8.out.size (fun i hi e => by have := HO.out g (.inl rfl); omega)).trans (hfs.below (Nat.le_trans BE8.out.size f.size) (fun i hi e => by have := HG5.out; omega)))
  have S7_9 := Lib.hid ((S7_8.out.frm f (fun a ha => (N7.out a ha).2.1)).frm hfs (fun a ha => (N7.out a ha).2.2))
  clear r f kb k2 hfs KB8 K28 R8 BE8 S7_8
  go_wp2_with fail
  clear q0 z0
  generalize w'.setCell ⟨g5, 8, none⟩ (.int .u64 ((q9 bs).1 : Int)) = W at *
  have CC : Hid (Calls Try.prog 59 #[.pointer (some ⟨g, 0, none⟩)] W (RdPost 99 g AR bs (.int .u64 ((q10 bs).1 : Int)) (q10 bs).2 W)) := ruint_any g AR bs (q9 bs).2 _ R9.out
  refine CC.out.mono ?_
  clear CC
  rintro e w' ⟨rfl, r, f⟩
  have kb := KB9.out.frm f (fun e => HL5.out g (.inl rfl) e.symm)
  have k2 := K29.out.frm f (fun e => by have := HO.out g (.inl rfl); omega)
  have q0 : w'.cell? ⟨g5, 9, none⟩ = some (.int .u64 0) := kb.cell 9
  have z0 : w'.frozen? ⟨g5, 9, none⟩ = false := kb.frozen 9
  have hfs : Frm (· = g5) w' (w'.setCell ⟨g5, 9, none⟩ (.int .u64 ((q10 bs).1 : Int))) := (Frm.refl (· = g5) w').setCell (fun _ => rfl) _
  have KB10 : Hid (Blk (w'.setCell ⟨g5, 9, none⟩ (.int .u64 ((q10 bs).1 : Int))) g5 27 #[.int .i64 (q1 bs).1, .int .i64 (q2 bs).1, .int .i64 (q3 bs).1, .int .i64 (q4 bs).1, .int .i64 (q5 bs).1, .string ⟨(q6 bs).1.toArray⟩, .string ⟨(q7 bs).1.toArray⟩, .slice A7 (q8 bs).1.length c7, .int .u64 ((q9 bs).1 : Int), .int .u64 ((q10 bs).1 : Int), .string ⟨#[]⟩, .slice none 0 0]) := kb.put 9 _
  have K210 : Hid (Blk (w'.setCell ⟨g5, 9, none⟩ (.int .u64 ((q10 bs).1 : Int))) w.heap.size 27 #[.int .i64 0, .int .i64 0, .int .i64 0, .int .i64 0, .int .i64 0, .string ⟨#[]⟩, .string ⟨#[]⟩, .slice none 0 0, .int .u64 0, .int .u64 0, .string ⟨#[]⟩, .slice none 0 0]) := k2.frm hfs (fun e => by have := HG5.out; omega)
  have R10 : Hid (Rd 99 (w'.setCell ⟨g5, 9, none⟩ (.int .u64 ((q10 bs).1 : Int))) g AR bs (q10 bs).2) := Rd.keep (s := (q10 bs).2) r hfs HL5.out
  have BE10 : Hid (Below w.heap.size w (w'.setCell ⟨g5, 9, none⟩ (.int .u64 ((q10 bs).1 : Int)))) := BE9.out.trans ((f.below BE9.out.size (fun i hi e => by have := HO.out g (.inl rfl); omega)).trans (hfs.below (Nat.le_trans BE9.out.size f.size) (fun i hi e => by have := HG5.out; omega)))
  have S7_10 := Lib.hid ((S7_9.out.frm f (fun a ha => (N7.out a ha).2.1)).frm hfs (fun a ha => (N7.out a ha).2.2))
  clear r f kb k2 hfs KB9 K29 R9 BE9 S7_9
  go_wp2_with fail
  clear q0 z0
  generalize w'.setCell ⟨g5, 9, none⟩ (.int .u64 ((q10 bs).1 : Int)) = W at *
  have CC : Hid (Calls Try.prog 57 #[.pointer (some ⟨g, 0, none⟩), .int .i64 24] W (RdPost 99 g AR bs (.string ⟨(q11 bs).1.toArray⟩) (q11 bs).2 W)) := rtext_any g AR bs 24 (q10 bs).2 _ R10.out ⟨by omega, by omega⟩
  refine CC.out.mono ?_
  clear CC
  rintro e w' ⟨rfl, r, f⟩
  have kb := KB10.out.frm f (fun e => HL5.out g (.inl rfl) e.symm)
  have k2 := K210.out.frm f (fun e => by have := HO.out g (.inl rfl); omega)
  have q0 : w'.cell? ⟨g5, 10, none⟩ = some (.string ⟨#[]⟩) := kb.cell 10
  have z0 : w'.frozen? ⟨g5, 10, none⟩ = false := kb.frozen 10
  have hfs : Frm (· = g5) w' (w'.setCell ⟨g5, 10, none⟩ (.string ⟨(q11 bs).1.toArray⟩)) := (Frm.refl (· = g5) w').setCell (fun _ => rfl) _
  have KB11 : Hid (Blk (w'.setCell ⟨g5, 10, none⟩ (.string ⟨(q11 bs).1.toArray⟩)) g5 27 #[.int .i64 (q1 bs).1, .int .i64 (q2 bs).1, .int .i64 (q3 bs).1, .int .i64 (q4 bs).1, .int .i64 (q5 bs).1, .string ⟨(q6 bs).1.toArray⟩, .string ⟨(q7 bs).1.toArray⟩, .slice A7 (q8 bs).1.length c7, .int .u64 ((q9 bs).1 : Int), .int .u64 ((q10 bs).1 : Int), .string ⟨(q11 bs).1.toArray⟩, .slice none 0 0]) := kb.put 10 _
  have K211 : Hid (Blk (w'.setCell ⟨g5, 10, none⟩ (.string ⟨(q11 bs).1.toArray⟩)) w.heap.size 27 #[.int .i64 0, .int .i64 0, .int .i64 0, .int .i64 0, .int .i64 0, .string ⟨#[]⟩, .string ⟨#[]⟩, .slice none 0 0, .int .u64 0, .int .u64 0, .string ⟨#[]⟩, .slice none 0 0]) := k2.frm hfs (fun e => by have := HG5.out; omega)
  have R11 : Hid (Rd 99 (w'.setCell ⟨g5, 10, none⟩ (.string ⟨(q11 bs).1.toArray⟩)) g AR bs (q11 bs).2) := Rd.keep (s := (q11 bs).2) r hfs HL5.out
  have BE11 : Hid (Below w.heap.size w (w'.setCell ⟨g5, 10, none⟩ (.string ⟨(q11 bs).1.toArray⟩))) := BE10.out.trans ((f.below BE10.out.size (fun i hi e => by have := HO.out g (.inl rfl); omega)).trans (hfs.below (Nat.le_trans BE10.out.size f.size) (fun i hi e => by have := HG5.out; omega)))
  have S7_11 := Lib.hid ((S7_10.out.frm f (fun a ha => (N7.out a ha).2.1)).frm hfs (fun a ha => (N7.out a ha).2.2))
  clear r f kb k2 hfs KB10 K210 R10 BE10 S7_10
  go_wp2_with fail
  clear q0 z0
  generalize w'.setCell ⟨g5, 10, none⟩ (.string ⟨(q11 bs).1.toArray⟩) = W at *
  have CC : Hid (Calls Try.prog 58 #[.pointer (some ⟨g, 0, none⟩), .int .i64 256] W (RdIntsPost 99 g AR bs (q12 bs).1 (q12 bs).2 W)) := rints_any g AR bs 256 (q11 bs).2 _ R11.out ⟨by omega, by omega⟩
  refine CC.out.mono ?_
  clear CC
  rintro e w' ⟨x, rfl, ho, hk, r, f⟩
  obtain ⟨A11, c11, rfl, hsl⟩ := own_form ho
  have N11 : Hid (∀ a, A11 = some a → w.heap.size < a.block ∧ a.block ≠ g ∧ a.block ≠ g5) := Lib.hid (fun a ha => by
    have h1 := hk a.block (by rw [ha]; rfl)
    have h2 := R11.out.rown_lt (.inl rfl)
    have h3 := KB11.out.lt
    have h4 := HG5.out
    exact ⟨by omega, by omega, by omega⟩)
  have S11_11 := Lib.hid hsl
  clear ho hk hsl
  have kb := KB11.out.frm f (fun e => HL5.out g (.inl rfl) e.symm)
  have k2 := K211.out.frm f (fun e => by have := HO.out g (.inl rfl); omega)
  have q0 : w'.cell? ⟨g5, 11, none⟩ = some (.slice none 0 0) := kb.cell 11
  have z0 : w'.frozen? ⟨g5, 11, none⟩ = false := kb.frozen 11
  have hfs : Frm (· = g5) w' (w'.setCell ⟨g5, 11, none⟩ (.slice A11 (q12 bs).1.length c11)) := (Frm.refl (· = g5) w').setCell (fun _ => rfl) _
  have KB12 : Hid (Blk (w'.setCell ⟨g5, 11, none⟩ (.slice A11 (q12 bs).1.length c11)) g5 27 #[.int .i64 (q1 bs).1, .int .i64 (q2 bs).1, .int .i64 (q3 bs).1, .int .i64 (q4 bs).1, .int .i64 (q5 bs).1, .string ⟨(q6 bs).1.toArray⟩, .string ⟨(q7 bs).1.toArray⟩, .slice A7 (q8 bs).1.length c7, .int .u64 ((q9 bs).1 : Int), .int .u64 ((q10 bs).1 : Int), .string ⟨(q11 bs).1.toArray⟩, .slice A11 (q12 bs).1.length c11]) := kb.put 11 _
  have K212 : Hid (Blk (w'.setCell ⟨g5, 11, none⟩ (.slice A11 (q12 bs).1.length c11)) w.heap.size 27 #[.int .i64 0, .int .i64 0, .int .i64 0, .int .i64 0, .int .i64 0, .string ⟨#[]⟩, .string ⟨#[]⟩, .slice none 0 0, .int .u64 0, .int .u64 0, .string ⟨#[]⟩, .slice none 0 0]) := k2.frm hfs (fun e => by have := HG5.out; omega)
  have R12 : Hid (Rd 99 (w'.setCell ⟨g5, 11, none⟩ (.slice A11 (q12 bs).1.length c11)) g AR bs (q12 bs).2) := Rd.keep (s := (q12 bs).2) r hfs HL5.out
  have BE12 : Hid (Below w.heap.size w (w'.setCell ⟨g5, 11, none⟩ (.slice A11 (q12 bs).1.length c11))) := BE11.out.trans ((f.below BE11.out.size (fun i hi e => by have := HO.out g (.inl rfl); omega)).trans (hfs.below (Nat.le_trans BE11.out.size f.size) (fun i hi e => by have := HG5.out; omega)))
  have S7_12 := Lib.hid ((S7_11.out.frm f (fun a ha => (N7.out a ha).2.1)).frm hfs (fun a ha => (N7.out a ha).2.2))
  have S11_12 := Lib.hid (S11_11.out.frm hfs (fun a ha => (N11.out a ha).2.2))
  clear r f kb k2 hfs KB11 K211 R11 BE11 S7_11 S11_11
  go_wp2_with fail
  clear q0 z0
  generalize w'.setCell ⟨g5, 11, none⟩ (.slice A11 (q12 bs).1.length c11) = W at *
  refine (rerr_any g AR bs (q12 bs).2 _ R12.out).mono ?_
  rintro e w' ⟨rfl, rfl⟩
  have HD : Hid (decErr bs = if (q12 bs).2.err = 0 then (if 0 < rLeft bs (q12 bs).2 then 1 else 0) else (q12 bs).2.err) := rfl
  have HDC : Hid (dec bs = if decErr bs = 0 then got bs else none_) := rfl
  by_cases he : (q12 bs).2.err = 0
  · have te : ((q12 bs).2.err != 0) = false := by simp [he]
    have HEr := Lib.hid he
    clear he
    go_wp2_with fail
    refine (rleft_any g AR bs (q12 bs).2 _ R12.out).mono ?_
    rintro e w' ⟨rfl, q, rfl⟩
    have stz' : (storeRow 27 (.pointer (some ⟨w.heap.size, 0, none⟩)) (.agg #[.int .i64 0, .int .i64 0, .int .i64 0, .int .i64 0, .int .i64 0, .string ⟨#[]⟩, .string ⟨#[]⟩, .slice none 0 0, .int .u64 0, .int .u64 0, .string ⟨#[]⟩, .slice none 0 0])).run Try.prog (W.drewN q) = .ok () ((W.drewN q).setRow w.heap.size #[.int .i64 0, .int .i64 0, .int .i64 0, .int .i64 0, .int .i64 0, .string ⟨#[]⟩, .string ⟨#[]⟩, .slice none 0 0, .int .u64 0, .int .u64 0, .string ⟨#[]⟩, .slice none 0 0]) := store_rec (K212.out.drewN q) rfl rfl rfl
    have stg' : (storeRow 27 (.pointer (some ⟨w.heap.size, 0, none⟩)) (.agg #[.int .i64 (q1 bs).1, .int .i64 (q2 bs).1, .int .i64 (q3 bs).1, .int .i64 (q4 bs).1, .int .i64 (q5 bs).1, .string ⟨(q6 bs).1.toArray⟩, .string ⟨(q7 bs).1.toArray⟩, .slice A7 (q8 bs).1.length c7, .int .u64 ((q9 bs).1 : Int), .int .u64 ((q10 bs).1 : Int), .string ⟨(q11 bs).1.toArray⟩, .slice A11 (q12 bs).1.length c11])).run Try.prog (W.drewN q) = .ok () ((W.drewN q).setRow w.heap.size #[.int .i64 (q1 bs).1, .int .i64 (q2 bs).1, .int .i64 (q3 bs).1, .int .i64 (q4 bs).1, .int .i64 (q5 bs).1, .string ⟨(q6 bs).1.toArray⟩, .string ⟨(q7 bs).1.toArray⟩, .slice A7 (q8 bs).1.length c7, .int .u64 ((q9 bs).1 : Int), .int .u64 ((q10 bs).1 : Int), .string ⟨(q11 bs).1.toArray⟩, .slice A11 (q12 bs).1.length c11]) := store_rec (K212.out.drewN q) rfl rfl rfl
    have lg' : (loadRow 27 (.pointer (some ⟨g5, 0, none⟩))).run Try.prog (W.drewN q) = .ok (.agg #[.int .i64 (q1 bs).1, .int .i64 (q2 bs).1, .int .i64 (q3 bs).1, .int .i64 (q4 bs).1, .int .i64 (q5 bs).1, .string ⟨(q6 bs).1.toArray⟩, .string ⟨(q7 bs).1.toArray⟩, .slice A7 (q8 bs).1.length c7, .int .u64 ((q9 bs).1 : Int), .int .u64 ((q10 bs).1 : Int), .string ⟨(q11 bs).1.toArray⟩, .slice A11 (q12 bs).1.length c11]) (W.drewN q) := load_blk (KB12.out.drewN q) rfl
    have BZ' : Hid (∀ cs, Below w.heap.size w ((W.drewN q).setRow w.heap.size cs)) := fun cs => (below_drewN BE12.out q).trans ((frm_setRow (W.drewN q) w.heap.size cs).below BE12.out.size (fun i hi e => by omega))
    have BL' : Hid (∀ cs, Blk ((W.drewN q).setRow w.heap.size cs) w.heap.size 27 cs) := fun cs => Blk_setRow (K212.out.drewN q) cs
    have IZ : Hid (∀ W, IsRec W #[.int .i64 0, .int .i64 0, .int .i64 0, .int .i64 0, .int .i64 0, .string ⟨#[]⟩, .string ⟨#[]⟩, .slice none 0 0, .int .u64 0, .int .u64 0, .string ⟨#[]⟩, .slice none 0 0] none_) := fun W => is_none W
    have IG : Hid (IsRec ((W.drewN q).setRow w.heap.size #[.int .i64 (q1 bs).1, .int .i64 (q2 bs).1, .int .i64 (q3 bs).1, .int .i64 (q4 bs).1, .int .i64 (q5 bs).1, .string ⟨(q6 bs).1.toArray⟩, .string ⟨(q7 bs).1.toArray⟩, .slice A7 (q8 bs).1.length c7, .int .u64 ((q9 bs).1 : Int), .int .u64 ((q10 bs).1 : Int), .string ⟨(q11 bs).1.toArray⟩, .slice A11 (q12 bs).1.length c11]) #[.int .i64 (q1 bs).1, .int .i64 (q2 bs).1, .int .i64 (q3 bs).1, .int .i64 (q4 bs).1, .int .i64 (q5 bs).1, .string ⟨(q6 bs).1.toArray⟩, .string ⟨(q7 bs).1.toArray⟩, .slice A7 (q8 bs).1.length c7, .int .u64 ((q9 bs).1 : Int), .int .u64 ((q10 bs).1 : Int), .string ⟨(q11 bs).1.toArray⟩, .slice A11 (q12 bs).1.length c11] (got bs)) := Lib.hid ⟨A7, c7, A11, c11, rfl, (S7_12.out.drewN q).frm (frm_setRow _ _ _) (fun a ha e => absurd (N7.out a ha).1 (by omega)), (S11_12.out.drewN q).frm (frm_setRow _ _ _) (fun a ha e => absurd (N11.out a ha).1 (by omega)), Nat.le_trans (rIs_fine mList (q7_ok bs)).2.2.1 HN.out, Nat.le_trans (rIs_fine mList (q11_ok bs)).2.2.1 HN.out⟩
    have LS : Hid (Lst (fun i => w.heap.size ≤ i) #[.int .i64 (q1 bs).1, .int .i64 (q2 bs).1, .int .i64 (q3 bs).1, .int .i64 (q4 bs).1, .int .i64 (q5 bs).1, .string ⟨(q6 bs).1.toArray⟩, .string ⟨(q7 bs).1.toArray⟩, .slice A7 (q8 bs).1.length c7, .int .u64 ((q9 bs).1 : Int), .int .u64 ((q10 bs).1 : Int), .string ⟨(q11 bs).1.toArray⟩, .slice A11 (q12 bs).1.length c11]) := Lib.hid (lst_two (fun a ha => Nat.le_of_lt (N7.out a ha).1) (fun a ha => Nat.le_of_lt (N11.out a ha).1))
    by_cases hlf : 0 < rLeft bs (q12 bs).2
    · have HE1 : Hid (decErr bs = 1) := by show _ = _; rw [HD.out, if_pos HEr.out, if_pos hlf]
      have HE2 : Hid (dec bs = none_) := by show _ = _; rw [HDC.out, HE1.out]; rfl
      have hli : (0 : Int) < (rLeft bs (q12 bs).2 : Int) := by omega
      go_wp2_with fail
      exact ret_rec2 Try.results22 rfl rfl (BL'.out _) rfl ⟨_, by rw [HE1.out]; rfl, by rw [HE2.out]; exact IZ.out _, BZ'.out _, lst_zero _⟩
    · have HE1 : Hid (decErr bs = 0) := by show _ = _; rw [HD.out, if_pos HEr.out, if_neg hlf]
      have HE2 : Hid (dec bs = got bs) := by show _ = _; rw [HDC.out, HE1.out]; rfl
      have hli : (rLeft bs (q12 bs).2 : Int) = 0 := by omega
      have hll : rLeft bs (q12 bs).2 = 0 := by omega
      clear hlf
      go_wp2_with fail
      exact ret_rec2 Try.results22 rfl rfl (BL'.out _) rfl ⟨_, by rw [HE1.out]; rfl, by rw [HE2.out]; exact IG.out, BZ'.out _, LS.out⟩
  · have te : ((q12 bs).2.err != 0) = true := by simp [he]
    have HE1 : Hid (decErr bs = (q12 bs).2.err) := by show _ = _; rw [HD.out, if_neg he]
    have HE2 : Hid (dec bs = none_) := by show _ = _; rw [HDC.out, if_neg (by rw [HE1.out]; exact he)]
    have stz := store_rec (cs := #[.int .i64 0, .int .i64 0, .int .i64 0, .int .i64 0, .int .i64 0, .string ⟨#[]⟩, .string ⟨#[]⟩, .slice none 0 0, .int .u64 0, .int .u64 0, .string ⟨#[]⟩, .slice none 0 0]) K212.out rfl rfl rfl
    have BZ : Hid (∀ cs, Below w.heap.size w (W.setRow w.heap.size cs)) := fun cs => BE12.out.trans ((frm_setRow W w.heap.size cs).below BE12.out.size (fun i hi e => by omega))
    have BL : Hid (∀ cs, Blk (W.setRow w.heap.size cs) w.heap.size 27 cs) := fun cs => Blk_setRow K212.out cs
    have IZ : Hid (∀ W, IsRec W #[.int .i64 0, .int .i64 0, .int .i64 0, .int .i64 0, .int .i64 0, .string ⟨#[]⟩, .string ⟨#[]⟩, .slice none 0 0, .int .u64 0, .int .u64 0, .string ⟨#[]⟩, .slice none 0 0] none_) := fun W => is_none W
    clear he
    go_wp2_with fail
    exact ret_rec2 Try.results22 rfl rfl (BL.out _) rfl ⟨_, by rw [HE1.out]; rfl, by rw [HE2.out]; exact IZ.out _, BZ.out _, lst_zero _⟩

set_option maxRecDepth 100000 in
set_option maxHeartbeats 8000000 in
theorem decodeR_any (bs : List UInt8) (A : Option Addr) (n c : Nat) (w : World) (hs : Sl w 1 A n (byts bs)) (hl : n ≤ 100000000) :
    Calls Try.prog 23 #[.slice A n c] w (DecPost bs w) := by
  have hbl : bs.length = n := by have := hs.1; simpa [byts_len] using this
  have HN : Hid (bs.length ≤ 9223372036854775807) := Lib.hid (by omega)
  obtain ⟨W0, hW0⟩ : ∃ W0, W0 = w.alloc (.cells #[.int .i64 0, .int .i64 0, .int .i64 0, .int .i64 0, .int .i64 0, .string ⟨#[]⟩, .string ⟨#[]⟩, .slice none 0 0, .int .u64 0, .int .u64 0, .string ⟨#[]⟩, .slice none 0 0] 27) := ⟨_, rfl⟩
  have K2 : Hid (Blk W0 w.heap.size 27 #[.int .i64 0, .int .i64 0, .int .i64 0, .int .i64 0, .int .i64 0, .string ⟨#[]⟩, .string ⟨#[]⟩, .slice none 0 0, .int .u64 0, .int .u64 0, .string ⟨#[]⟩, .slice none 0 0]) := by rw [hW0]; exact Blk.new _ _ _
  have BE : Hid (Below w.heap.size w W0) := by rw [hW0]; exact (Below.refl _ w).alloc (Nat.le_refl _) _
  have HS : Hid (Sl W0 1 A n (byts bs)) := by rw [hW0]; exact hs.alloc _
  have HW := Lib.hid hW0
  clear hW0 hs hbl
  go_enter Try.func23, Try.ntmps23
  go_wp2_with fail
  rw [← HW.out]
  refine (newReaderR_any bs A n c _ HS.out (by omega)).mono ?_
  rintro e w1 ⟨g, AR, rfl, hown, hrd, hb⟩
  have HO : Hid (∀ k, rown g AR k → w.heap.size < k) := fun k hk => Nat.lt_of_lt_of_le K2.out.lt (hown k hk)
  have HL : Hid (∀ k, rown g AR k → k < w1.heap.size) := fun k hk => hrd.rown_lt hk
  have HGL : Hid (w.heap.size < w1.heap.size) := Nat.lt_of_lt_of_le K2.out.lt hb.size
  have K2b : Hid (Blk w1 w.heap.size 27 #[.int .i64 0, .int .i64 0, .int .i64 0, .int .i64 0, .int .i64 0, .string ⟨#[]⟩, .string ⟨#[]⟩, .slice none 0 0, .int .u64 0, .int .u64 0, .string ⟨#[]⟩, .slice none 0 0]) := K2.out.below hb K2.out.lt
  have BEb : Hid (Below w.heap.size w w1) := BE.out.trans (hb.mono BE.out.size)
  have Rb : Hid (Rd 105 w1 g AR bs ⟨0, 0⟩) := hrd
  clear hown hrd hb HS HW K2 BE
  obtain ⟨g5, hg5⟩ : ∃ g5, g5 = w1.heap.size := ⟨_, rfl⟩
  obtain ⟨W, hW⟩ : ∃ W, W = w1.alloc (.cells #[.int .i64 0, .int .i64 0, .int .i64 0, .int .i64 0, .int .i64 0, .string ⟨#[]⟩, .string ⟨#[]⟩, .slice none 0 0, .int .u64 0, .int .u64 0, .string ⟨#[]⟩, .slice none 0 0] 27) := ⟨_, rfl⟩
  have KB0 : Hid (Blk W g5 27 #[.int .i64 0, .int .i64 0, .int .i64 0, .int .i64 0, .int .i64 0, .string ⟨#[]⟩, .string ⟨#[]⟩, .slice none 0 0, .int .u64 0, .int .u64 0, .string ⟨#[]⟩, .slice none 0 0]) := by rw [hW, hg5]; exact Blk.new _ _ _
  have hf0 : Frm (fun _ => False) w1 W := by rw [hW]; exact (Frm.refl _ _).alloc _
  have K20 : Hid (Blk W w.heap.size 27 #[.int .i64 0, .int .i64 0, .int .i64 0, .int .i64 0, .int .i64 0, .string ⟨#[]⟩, .string ⟨#[]⟩, .slice none 0 0, .int .u64 0, .int .u64 0, .string ⟨#[]⟩, .slice none 0 0]) := K2b.out.frm hf0 (fun h => h)
  have R0 : Hid (Rd 105 W g AR bs ⟨0, 0⟩) := Rb.out.keep hf0 (fun _ _ h => h)
  have BE0 : Hid (Below w.heap.size w W) := BEb.out.trans (hf0.below (B := w.heap.size) BEb.out.size (fun _ _ h => h))
  have HG5 : Hid (w.heap.size < g5) := by rw [hg5]; exact HGL.out
  have HL5 : Hid (∀ k, rown g AR k → k ≠ g5) := fun k hk e => by have := HL.out k hk; omega
  have HW := Lib.hid hW
  clear hW hf0 K2b BEb Rb HL HGL
  go_wp2_with fail
  rw [← HW.out, ← hg5]
  clear hg5 HW
  have CC : Hid (Calls Try.prog 63 #[.pointer (some ⟨g, 0, none⟩)] W (RdPost 105 g AR bs (.int .i64 (q1 bs).1) (q1 bs).2 W)) := rintR_any g AR bs ⟨0, 0⟩ _ R0.out
  refine CC.out.mono ?_
  clear CC
  rintro e w' ⟨rfl, r, f⟩
  have kb := KB0.out.frm f (fun e => HL5.out g (.inl rfl) e.symm)
  have k2 := K20.out.frm f (fun e => by have := HO.out g (.inl rfl); omega)
  have q0 : w'.cell? ⟨g5, 0, none⟩ = some (.int .i64 0) := kb.cell 0
  have z0 : w'.frozen? ⟨g5, 0, none⟩ = false := kb.frozen 0
  have hfs : Frm (· = g5) w' (w'.setCell ⟨g5, 0, none⟩ (.int .i64 (q1 bs).1)) := (Frm.refl (· = g5) w').setCell (fun _ => rfl) _
  have KB1 : Hid (Blk (w'.setCell ⟨g5, 0, none⟩ (.int .i64 (q1 bs).1)) g5 27 #[.int .i64 (q1 bs).1, .int .i64 0, .int .i64 0, .int .i64 0, .int .i64 0, .string ⟨#[]⟩, .string ⟨#[]⟩, .slice none 0 0, .int .u64 0, .int .u64 0, .string ⟨#[]⟩, .slice none 0 0]) := kb.put 0 _
  have K21 : Hid (Blk (w'.setCell ⟨g5, 0, none⟩ (.int .i64 (q1 bs).1)) w.heap.size 27 #[.int .i64 0, .int .i64 0, .int .i64 0, .int .i64 0, .int .i64 0, .string ⟨#[]⟩, .string ⟨#[]⟩, .slice none 0 0, .int .u64 0, .int .u64 0, .string ⟨#[]⟩, .slice none 0 0]) := k2.frm hfs (fun e => by have := HG5.out; omega)
  have R1 : Hid (Rd 105 (w'.setCell ⟨g5, 0, none⟩ (.int .i64 (q1 bs).1)) g AR bs (q1 bs).2) := Rd.keep (s := (q1 bs).2) r hfs HL5.out
  have BE1 : Hid (Below w.heap.size w (w'.setCell ⟨g5, 0, none⟩ (.int .i64 (q1 bs).1))) := BE0.out.trans ((f.below BE0.out.size (fun i hi e => by have := HO.out g (.inl rfl); omega)).trans (hfs.below (Nat.le_trans BE0.out.size f.size) (fun i hi e => by have := HG5.out; omega)))
  clear r f kb k2 hfs KB0 K20 R0 BE0
  go_wp2_with fail
  clear q0 z0
  generalize w'.setCell ⟨g5, 0, none⟩ (.int .i64 (q1 bs).1) = W at *
  have CC : Hid (Calls Try.prog 63 #[.pointer (some ⟨g, 0, none⟩)] W (RdPost 105 g AR bs (.int .i64 (q2 bs).1) (q2 bs).2 W)) := rintR_any g AR bs (q1 bs).2 _ R1.out
  refine CC.out.mono ?_
  clear CC
  rintro e w' ⟨rfl, r, f⟩
  have kb := KB1.out.frm f (fun e => HL5.out g (.inl rfl) e.symm)
  have k2 := K21.out.frm f (fun e => by have := HO.out g (.inl rfl); omega)
  have q0 : w'.cell? ⟨g5, 1, none⟩ = some (.int .i64 0) := kb.cell 1
  have z0 : w'.frozen? ⟨g5, 1, none⟩ = false := kb.frozen 1
  have hfs : Frm (· = g5) w' (w'.setCell ⟨g5, 1, none⟩ (.int .i64 (q2 bs).1)) := (Frm.refl (· = g5) w').setCell (fun _ => rfl) _
  have KB2 : Hid (Blk (w'.setCell ⟨g5, 1, none⟩ (.int .i64 (q2 bs).1)) g5 27 #[.int .i64 (q1 bs).1, .int .i64 (q2 bs).1, .int .i64 0, .int .i64 0, .int .i64 0, .string ⟨#[]⟩, .string ⟨#[]⟩, .slice none 0 0, .int .u64 0, .int .u64 0, .string ⟨#[]⟩, .slice none 0 0]) := kb.put 1 _
  have K22 : Hid (Blk (w'.setCell ⟨g5, 1, none⟩ (.int .i64 (q2 bs).1)) w.heap.size 27 #[.int .i64 0, .int .i64 0, .int .i64 0, .int .i64 0, .int .i64 0, .string ⟨#[]⟩, .string ⟨#[]⟩, .slice none 0 0, .int .u64 0, .int .u64 0, .string ⟨#[]⟩, .slice none 0 0]) := k2.frm hfs (fun e => by have := HG5.out; omega)
  have R2 : Hid (Rd 105 (w'.setCell ⟨g5, 1, none⟩ (.int .i64 (q2 bs).1)) g AR bs (q2 bs).2) := Rd.keep (s := (q2 bs).2) r hfs HL5.out
  have BE2 : Hid (Below w.heap.size w (w'.setCell ⟨g5, 1, none⟩ (.int .i64 (q2 bs).1))) := BE1.out.trans ((f.below BE1.out.size (fun i hi e => by have := HO.out g (.inl rfl); omega)).trans (hfs.below (Nat.le_trans BE1.out.size f.size) (fun i hi e => by have := HG5.out; omega)))
  clear r f kb k2 hfs KB1 K21 R1 BE1
  go_wp2_with fail
  clear q0 z0
  generalize w'.setCell ⟨g5, 1, none⟩ (.int .i64 (q2 bs).1) = W at *
  have CC : Hid (Calls Try.prog 63 #[.pointer (some ⟨g, 0, none⟩)] W (RdPost 105 g AR bs (.int .i64 (q3 bs).1) (q3 bs).2 W)) := rintR_any g AR bs (q2 bs).2 _ R2.out
  refine CC.out.mono ?_
  clear CC
  rintro e w' ⟨rfl, r, f⟩
  have kb := KB2.out.frm f (fun e => HL5.out g (.inl rfl) e.symm)
  have k2 := K22.out.frm f (fun e => by have := HO.out g (.inl rfl); omega)
  have q0 : w'.cell? ⟨g5, 2, none⟩ = some (.int .i64 0) := kb.cell 2
  have z0 : w'.frozen? ⟨g5, 2, none⟩ = false := kb.frozen 2
  have hfs : Frm (· = g5) w' (w'.setCell ⟨g5, 2, none⟩ (.int .i64 (q3 bs).1)) := (Frm.refl (· = g5) w').setCell (fun _ => rfl) _
  have KB3 : Hid (Blk (w'.setCell ⟨g5, 2, none⟩ (.int .i64 (q3 bs).1)) g5 27 #[.int .i64 (q1 bs).1, .int .i64 (q2 bs).1, .int .i64 (q3 bs).1, .int .i64 0, .int .i64 0, .string ⟨#[]⟩, .string ⟨#[]⟩, .slice none 0 0, .int .u64 0, .int .u64 0, .string ⟨#[]⟩, .slice none 0 0]) := kb.put 2 _
  have K23 : Hid (Blk (w'.setCell ⟨g5, 2, none⟩ (.int .i64 (q3 bs).1)) w.heap.size 27 #[.int .i64 0, .int .i64 0, .int .i64 0, .int .i64 0, .int .i64 0, .string ⟨#[]⟩, .string ⟨#[]⟩, .slice none 0 0, .int .u64 0, .int .u64 0, .string ⟨#[]⟩, .slice none 0 0]) := k2.frm hfs (fun e => by have := HG5.out; omega)
  have R3 : Hid (Rd 105 (w'.setCell ⟨g5, 2, none⟩ (.int .i64 (q3 bs).1)) g AR bs (q3 bs).2) := Rd.keep (s := (q3 bs).2) r hfs HL5.out
  have BE3 : Hid (Below w.heap.size w (w'.setCell ⟨g5, 2, none⟩ (.int .i64 (q3 bs).1))) := BE2.out.trans ((f.below BE2.out.size (fun i hi e => by have := HO.out g (.inl rfl); omega)).trans (hfs.below (Nat.le_trans BE2.out.size f.size) (fun i hi e => by have := HG5.out; omega)))
  clear r f kb k2 hfs KB2 K22 R2 BE2
  go_wp2_with fail
  clear q0 z0
  generalize w'.setCell ⟨g5, 2, none⟩ (.int .i64 (q3 bs).1) = W at *
  have CC : Hid (Calls Try.prog 63 #[.pointer (some ⟨g, 0, none⟩)] W (RdPost 105 g AR bs (.int .i64 (q4 bs).1) (q4 bs).2 W)) := rintR_any g AR bs (q3 bs).2 _ R3.out
  refine CC.out.mono ?_
  clear CC
  rintro e w' ⟨rfl, r, f⟩
  have kb := KB3.out.frm f (fun e => HL5.out g (.inl rfl) e.symm)
  have k2 := K23.out.frm f (fun e => by have := HO.out g (.inl rfl); omega)
  have q0 : w'.cell? ⟨g5, 3, none⟩ = some (.int .i64 0) := kb.cell 3
  have z0 : w'.frozen? ⟨g5, 3, none⟩ = false := kb.frozen 3
  have hfs : Frm (· = g5) w' (w'.setCell ⟨g5, 3, none⟩ (.int .i64 (q4 bs).1)) := (Frm.refl (· = g5) w').setCell (fun _ => rfl) _
  have KB4 : Hid (Blk (w'.setCell ⟨g5, 3, none⟩ (.int .i64 (q4 bs).1)) g5 27 #[.int .i64 (q1 bs).1, .int .i64 (q2 bs).1, .int .i64 (q3 bs).1, .int .i64 (q4 bs).1, .int .i64 0, .string ⟨#[]⟩, .string ⟨#[]⟩, .slice none 0 0, .int .u64 0, .int .u64 0, .string ⟨#[]⟩, .slice none 0 0]) := kb.put 3 _
  have K24 : Hid (Blk (w'.setCell ⟨g5, 3, none⟩ (.int .i64 (q4 bs).1)) w.heap.size 27 #[.int .i64 0, .int .i64 0, .int .i64 0, .int .i64 0, .int .i64 0, .string ⟨#[]⟩, .string ⟨#[]⟩, .slice none 0 0, .int .u64 0, .int .u64 0, .string ⟨#[]⟩, .slice none 0 0]) := k2.frm hfs (fun e => by have := HG5.out; omega)
  have R4 : Hid (Rd 105 (w'.setCell ⟨g5, 3, none⟩ (.int .i64 (q4 bs).1)) g AR bs (q4 bs).2) := Rd.keep (s := (q4 bs).2) r hfs HL5.out
  have BE4 : Hid (Below w.heap.size w (w'.setCell ⟨g5, 3, none⟩ (.int .i64 (q4 bs).1))) := BE3.out.trans ((f.below BE3.out.size (fun i hi e => by have := HO.out g (.inl rfl); omega)).trans (hfs.below (Nat.le_trans BE3.out.size f.size) (fun i hi e => by have := HG5.out; omega)))
  clear r f kb k2 hfs KB3 K23 R3 BE3
  go_wp2_with fail
  clear q0 z0
  generalize w'.setCell ⟨g5, 3, none⟩ (.int .i64 (q4 bs).1) = W at *
  have CC : Hid (Calls Try.prog 63 #[.pointer (some ⟨g, 0, none⟩)] W (RdPost 105 g AR bs (.int .i64 (q5 bs).1) (q5 bs).2 W)) := rintR_any g AR bs (q4 bs).2 _ R4.out
  refine CC.out.mono ?_
  clear CC
  rintro e w' ⟨rfl, r, f⟩
  have kb := KB4.out.frm f (fun e => HL5.out g (.inl rfl) e.symm)
  have k2 := K24.out.frm f (fun e => by have := HO.out g (.inl rfl); omega)
  have q0 : w'.cell? ⟨g5, 4, none⟩ = some (.int .i64 0) := kb.cell 4
  have z0 : w'.frozen? ⟨g5, 4, none⟩ = false := kb.frozen 4
  have hfs : Frm (· = g5) w' (w'.setCell ⟨g5, 4, none⟩ (.int .i64 (q5 bs).1)) := (Frm.refl (· = g5) w').setCell (fun _ => rfl) _
  have KB5 : Hid (Blk (w'.setCell ⟨g5, 4, none⟩ (.int .i64 (q5 bs).1)) g5 27 #[.int .i64 (q1 bs).1, .int .i64 (q2 bs).1, .int .i64 (q3 bs).1, .int .i64 (q4 bs).1, .int .i64 (q5 bs).1, .string ⟨#[]⟩, .string ⟨#[]⟩, .slice none 0 0, .int .u64 0, .int .u64 0, .string ⟨#[]⟩, .slice none 0 0]) := kb.put 4 _
  have K25 : Hid (Blk (w'.setCell ⟨g5, 4, none⟩ (.int .i64 (q5 bs).1)) w.heap.size 27 #[.int .i64 0, .int .i64 0, .int .i64 0, .int .i64 0, .int .i64 0, .string ⟨#[]⟩, .string ⟨#[]⟩, .slice none 0 0, .int .u64 0, .int .u64 0, .string ⟨#[]⟩, .slice none 0 0]) := k2.frm hfs (fun e => by have := HG5.out; omega)
  have R5 : Hid (Rd 105 (w'.setCell ⟨g5, 4, none⟩ (.int .i64 (q5 bs).1)) g AR bs (q5 bs).2) := Rd.keep (s := (q5 bs).2) r hfs HL5.out
  have BE5 : Hid (Below w.heap.size w (w'.setCell ⟨g5, 4, none⟩ (.int .i64 (q5 bs).1))) := BE4.out.trans ((f.below BE4.out.size (fun i hi e => by have := HO.out g (.inl rfl); omega)).trans (hfs.below (Nat.le_trans BE4.out.size f.size) (fun i hi e => by have := HG5.out; omega)))
  clear r f kb k2 hfs KB4 K24 R4 BE4
  go_wp2_with fail
  clear q0 z0
  generalize w'.setCell ⟨g5, 4, none⟩ (.int .i64 (q5 bs).1) = W at *
  have CC : Hid (Calls Try.prog 64 #[.pointer (some ⟨g, 0, none⟩), .int .i64 24] W (RdPost 105 g AR bs (.string ⟨(q6 bs).1.toArray⟩) (q6 bs).2 W)) := rtextR_any g AR bs 24 (q5 bs).2 _ R5.out ⟨by omega, by omega⟩
  refine CC.out.mono ?_
  clear CC
  rintro e w' ⟨rfl, r, f⟩
  have kb := KB5.out.frm f (fun e => HL5.out g (.inl rfl) e.symm)
  have k2 := K25.out.frm f (fun e => by have := HO.out g (.inl rfl); omega)
  have q0 : w'.cell? ⟨g5, 5, none⟩ = some (.string ⟨#[]⟩) := kb.cell 5
  have z0 : w'.frozen? ⟨g5, 5, none⟩ = false := kb.frozen 5
  have hfs : Frm (· = g5) w' (w'.setCell ⟨g5, 5, none⟩ (.string ⟨(q6 bs).1.toArray⟩)) := (Frm.refl (· = g5) w').setCell (fun _ => rfl) _
  have KB6 : Hid (Blk (w'.setCell ⟨g5, 5, none⟩ (.string ⟨(q6 bs).1.toArray⟩)) g5 27 #[.int .i64 (q1 bs).1, .int .i64 (q2 bs).1, .int .i64 (q3 bs).1, .int .i64 (q4 bs).1, .int .i64 (q5 bs).1, .string ⟨(q6 bs).1.toArray⟩, .string ⟨#[]⟩, .slice none 0 0, .int .u64 0, .int .u64 0, .string ⟨#[]⟩, .slice none 0 0]) := kb.put 5 _
  have K26 : Hid (Blk (w'.setCell ⟨g5, 5, none⟩ (.string ⟨(q6 bs).1.toArray⟩)) w.heap.size 27 #[.int .i64 0, .int .i64 0, .int .i64 0, .int .i64 0, .int .i64 0, .string ⟨#[]⟩, .string ⟨#[]⟩, .slice none 0 0, .int .u64 0, .int .u64 0, .string ⟨#[]⟩, .slice none 0 0]) := k2.frm hfs (fun e => by have := HG5.out; omega)
  have R6 : Hid (Rd 105 (w'.setCell ⟨g5, 5, none⟩ (.string ⟨(q6 bs).1.toArray⟩)) g AR bs (q6 bs).2) := Rd.keep (s := (q6 bs).2) r hfs HL5.out
  have BE6 : Hid (Below w.heap.size w (w'.setCell ⟨g5, 5, none⟩ (.string ⟨(q6 bs).1.toArray⟩))) := BE5.out.trans ((f.below BE5.out.size (fun i hi e => by have := HO.out g (.inl rfl); omega)).trans (hfs.below (Nat.le_trans BE5.out.size f.size) (fun i hi e => by have := HG5.out; omega)))
  clear r f kb k2 hfs KB5 K25 R5 BE5
  go_wp2_with fail
  clear q0 z0
  generalize w'.setCell ⟨g5, 5, none⟩ (.string ⟨(q6 bs).1.toArray⟩) = W at *
  have CC : Hid (Calls Try.prog 64 #[.pointer (some ⟨g, 0, none⟩), .int .i64 32768] W (RdPost 105 g AR bs (.string ⟨(q7 bs).1.toArray⟩) (q7 bs).2 W)) := rtextR_any g AR bs 32768 (q6 bs).2 _ R6.out ⟨by omega, by omega⟩
  refine CC.out.mono ?_
  clear CC
  rintro e w' ⟨rfl, r, f⟩
  have kb := KB6.out.frm f (fun e => HL5.out g (.inl rfl) e.symm)
  have k2 := K26.out.frm f (fun e => by have := HO.out g (.inl rfl); omega)
  have q0 : w'.cell? ⟨g5, 6, none⟩ = some (.string ⟨#[]⟩) := kb.cell 6
  have z0 : w'.frozen? ⟨g5, 6, none⟩ = false := kb.frozen 6
  have hfs : Frm (· = g5) w' (w'.setCell ⟨g5, 6, none⟩ (.string ⟨(q7 bs).1.toArray⟩)) := (Frm.refl (· = g5) w').setCell (fun _ => rfl) _
  have KB7 : Hid (Blk (w'.setCell ⟨g5, 6, none⟩ (.string ⟨(q7 bs).1.toArray⟩)) g5 27 #[.int .i64 (q1 bs).1, .int .i64 (q2 bs).1, .int .i64 (q3 bs).1, .int .i64 (q4 bs).1, .int .i64 (q5 bs).1, .string ⟨(q6 bs).1.toArray⟩, .string ⟨(q7 bs).1.toArray⟩, .slice none 0 0, .int .u64 0, .int .u64 0, .string ⟨#[]⟩, .slice none 0 0]) := kb.put 6 _
  have K27 : Hid (Blk (w'.setCell ⟨g5, 6, none⟩ (.string ⟨(q7 bs).1.toArray⟩)) w.heap.size 27 #[.int .i64 0, .int .i64 0, .int .i64 0, .int .i64 0, .int .i64 0, .string ⟨#[]⟩, .string ⟨#[]⟩, .slice none 0 0, .int .u64 0, .int .u64 0, .string ⟨#[]⟩, .slice none 0 0]) := k2.frm hfs (fun e => by have := HG5.out; omega)
  have R7 : Hid (Rd 105 (w'.setCell ⟨g5, 6, none⟩ (.string ⟨(q7 bs).1.toArray⟩)) g AR bs (q7 bs).2) := Rd.keep (s := (q7 bs).2) r hfs HL5.out
  have BE7 : Hid (Below w.heap.size w (w'.setCell ⟨g5, 6, none⟩ (.string ⟨(q7 bs).1.toArray⟩))) := BE6.out.trans ((f.below BE6.out.size (fun i hi e => by have := HO.out g (.inl rfl); omega)).trans (hfs.below (Nat.le_trans BE6.out.size f.size) (fun i hi e => by have := HG5.out; omega)))
  clear r f kb k2 hfs KB6 K26 R6 BE6
  go_wp2_with fail
  clear q0 z0
  generalize w'.setCell ⟨g5, 6, none⟩ (.string ⟨(q7 bs).1.toArray⟩) = W at *
  have CC : Hid (Calls Try.prog 65 #[.pointer (some ⟨g, 0, none⟩), .int .i64 256] W (RdIntsPost 105 g AR bs (q8 bs).1 (q8 bs).2 W)) := rintsR_any g AR bs 256 (q7 bs).2 _ R7.out ⟨by omega, by omega⟩
  refine CC.out.mono ?_
  clear CC
  rintro e w' ⟨x, rfl, ho, hk, r, f⟩
  obtain ⟨A7, c7, rfl, hsl⟩ := own_form ho
  have N7 : Hid (∀ a, A7 = some a → w.heap.size < a.block ∧ a.block ≠ g ∧ a.block ≠ g5) := Lib.hid (fun a ha => by
    have h1 := hk a.block (by rw [ha]; rfl)
    have h2 := R7.out.rown_lt (.inl rfl)
    have h3 := KB7.out.lt
    have h4 := HG5.out
    exact ⟨by omega, by omega, by omega⟩)
  have S7_7 := Lib.hid hsl
  clear ho hk hsl
  have kb := KB7.out.frm f (fun e => HL5.out g (.inl rfl) e.symm)
  have k2 := K27.out.frm f (fun e => by have := HO.out g (.inl rfl); omega)
  have q0 : w'.cell? ⟨g5, 7, none⟩ = some (.slice none 0 0) := kb.cell 7
  have z0 : w'.frozen? ⟨g5, 7, none⟩ = false := kb.frozen 7
  have hfs : Frm (· = g5) w' (w'.setCell ⟨g5, 7, none⟩ (.slice A7 (q8 bs).1.length c7)) := (Frm.refl (· = g5) w').setCell (fun _ => rfl) _
  have KB8 : Hid (Blk (w'.setCell ⟨g5, 7, none⟩ (.slice A7 (q8 bs).1.length c7)) g5 27 #[.int .i64 (q1 bs).1, .int .i64 (q2 bs).1, .int .i64 (q3 bs).1, .int .i64 (q4 bs).1, .int .i64 (q5 bs).1, .string ⟨(q6 bs).1.toArray⟩, .string ⟨(q7 bs).1.toArray⟩, .slice A7 (q8 bs).1.length c7, .int .u64 0, .int .u64 0, .string ⟨#[]⟩, .slice none 0 0]) := kb.put 7 _
  have K28 : Hid (Blk (w'.setCell ⟨g5, 7, none⟩ (.slice A7 (q8 bs).1.length c7)) w.heap.size 27 #[.int .i64 0, .int .i64 0, .int .i64 0, .int .i64 0, .int .i64 0, .string ⟨#[]⟩, .string ⟨#[]⟩, .slice none 0 0, .int .u64 0, .int .u64 0, .string ⟨#[]⟩, .slice none 0 0]) := k2.frm hfs (fun e => by have := HG5.out; omega)
  have R8 : Hid (Rd 105 (w'.setCell ⟨g5, 7, none⟩ (.slice A7 (q8 bs).1.length c7)) g AR bs (q8 bs).2) := Rd.keep (s := (q8 bs).2) r hfs HL5.out
  have BE8 : Hid (Below w.heap.size w (w'.setCell ⟨g5, 7, none⟩ (.slice A7 (q8 bs).1.length c7))) := BE7.out.trans ((f.below BE7.out.size (fun i hi e => by have := HO.out g (.inl rfl); omega)).trans (hfs.below (Nat.le_trans BE7.out.size f.size) (fun i hi e => by have := HG5.out; omega)))
  have S7_8 := Lib.hid (S7_7.out.frm hfs (fun a ha => (N7.out a ha).2.2))
  clear r f kb k2 hfs KB7 K27 R7 BE7 S7_7
  go_wp2_with fail
  clear q0 z0
  generalize w'.setCell ⟨g5, 7, none⟩ (.slice A7 (q8 bs).1.length c7) = W at *
  have CC : Hid (Calls Try.prog 66 #[.pointer (some ⟨g, 0, none⟩)] W (RdPost 105 g AR bs (.int .u64 ((q9 bs).1 : Int)) (q9 bs).2 W)) := ruintR_any g AR bs (q8 bs).2 _ R8.out
  refine CC.out.mono ?_
  clear CC
  rintro e w' ⟨rfl, r, f⟩
  have kb := KB8.out.frm f (fun e => HL5.out g (.inl rfl) e.symm)
  have k2 := K28.out.frm f (fun e => by have := HO.out g (.inl rfl); omega)
  have q0 : w'.cell? ⟨g5, 8, none⟩ = some (.int .u64 0) := kb.cell 8
  have z0 : w'.frozen? ⟨g5, 8, none⟩ = false := kb.frozen 8
  have hfs : Frm (· = g5) w' (w'.setCell ⟨g5, 8, none⟩ (.int .u64 ((q9 bs).1 : Int))) := (Frm.refl (· = g5) w').setCell (fun _ => rfl) _
  have KB9 : Hid (Blk (w'.setCell ⟨g5, 8, none⟩ (.int .u64 ((q9 bs).1 : Int))) g5 27 #[.int .i64 (q1 bs).1, .int .i64 (q2 bs).1, .int .i64 (q3 bs).1, .int .i64 (q4 bs).1, .int .i64 (q5 bs).1, .string ⟨(q6 bs).1.toArray⟩, .string ⟨(q7 bs).1.toArray⟩, .slice A7 (q8 bs).1.length c7, .int .u64 ((q9 bs).1 : Int), .int .u64 0, .string ⟨#[]⟩, .slice none 0 0]) := kb.put 8 _
  have K29 : Hid (Blk (w'.setCell ⟨g5, 8, none⟩ (.int .u64 ((q9 bs).1 : Int))) w.heap.size 27 #[.int .i64 0, .int .i64 0, .int .i64 0, .int .i64 0, .int .i64 0, .string ⟨#[]⟩, .string ⟨#[]⟩, .slice none 0 0, .int .u64 0, .int .u64 0, .string ⟨#[]⟩, .slice none 0 0]) := k2.frm hfs (fun e => by have := HG5.out; omega)
  have R9 : Hid (Rd 105 (w'.setCell ⟨g5, 8, none⟩ (.int .u64 ((q9 bs).1 : Int))) g AR bs (q9 bs).2) := Rd.keep (s := (q9 bs).2) r hfs HL5.out
  have BE9 : Hid (Below w.heap.size w (w'.setCell ⟨g5, 8, none⟩ (.int .u64 ((q9 bs).1 : Int)))) := BE8.out.trans ((f.below BE8.out.size (fun i hi e => by have := HO.out g (.inl rfl); omega)).trans (hfs.below (Nat.le_trans BE8.out.size f.size) (fun i hi e => by have := HG5.out; omega)))
  have S7_9 := Lib.hid ((S7_8.out.frm f (fun a ha => (N7.out a ha).2.1)).frm hfs (fun a ha => (N7.out a ha).2.2))
  clear r f kb k2 hfs KB8 K28 R8 BE8 S7_8
  go_wp2_with fail
  clear q0 z0
  generalize w'.setCell ⟨g5, 8, none⟩ (.int .u64 ((q9 bs).1 : Int)) = W at *
  have CC : Hid (Calls Try.prog 66 #[.pointer (some ⟨g, 0, none⟩)] W (RdPost 105 g AR bs (.int .u64 ((q10 bs).1 : Int)) (q10 bs).2 W)) := ruintR_any g AR bs (q9 bs).2 _ R9.out
  refine CC.out.mono ?_
  clear CC
  rintro e w' ⟨rfl, r, f⟩
  have kb := KB9.out.frm f (fun e => HL5.out g (.inl rfl) e.symm)
  have k2 := K29.out.frm f (fun e => by have := HO.out g (.inl rfl); omega)
  have q0 : w'.cell? ⟨g5, 9, none⟩ = some (.int .u64 0) := kb.cell 9
  have z0 : w'.frozen? ⟨g5, 9, none⟩ = false := kb.frozen 9
  have hfs : Frm (· = g5) w' (w'.setCell ⟨g5, 9, none⟩ (.int .u64 ((q10 bs).1 : Int))) := (Frm.refl (· = g5) w').setCell (fun _ => rfl) _
  have KB10 : Hid (Blk (w'.setCell ⟨g5, 9, none⟩ (.int .u64 ((q10 bs).1 : Int))) g5 27 #[.int .i64 (q1 bs).1, .int .i64 (q2 bs).1, .int .i64 (q3 bs).1, .int .i64 (q4 bs).1, .int .i64 (q5 bs).1, .string ⟨(q6 bs).1.toArray⟩, .string ⟨(q7 bs).1.toArray⟩, .slice A7 (q8 bs).1.length c7, .int .u64 ((q9 bs).1 : Int), .int .u64 ((q10 bs).1 : Int), .string ⟨#[]⟩, .slice none 0 0]) := kb.put 9 _
  have K210 : Hid (Blk (w'.setCell ⟨g5, 9, none⟩ (.int .u64 ((q10 bs).1 : Int))) w.heap.size 27 #[.int .i64 0, .int .i64 0, .int .i64 0, .int .i64 0, .int .i64 0, .string ⟨#[]⟩, .string ⟨#[]⟩, .slice none 0 0, .int .u64 0, .int .u64 0, .string ⟨#[]⟩, .slice none 0 0]) := k2.frm hfs (fun e => by have := HG5.out; omega)
  have R10 : Hid (Rd 105 (w'.setCell ⟨g5, 9, none⟩ (.int .u64 ((q10 bs).1 : Int))) g AR bs (q10 bs).2) := Rd.keep (s := (q10 bs).2) r hfs HL5.out
  have BE10 : Hid (Below w.heap.size w (w'.setCell ⟨g5, 9, none⟩ (.int .u64 ((q10 bs).1 : Int)))) := BE9.out.trans ((f.below BE9.out.size (fun i hi e => by have := HO.out g (.inl rfl); omega)).trans (hfs.below (Nat.le_trans BE9.out.size f.size) (fun i hi e => by have := HG5.out; omega)))
  have S7_10 := Lib.hid ((S7_9.out.frm f (fun a ha => (N7.out a ha).2.1)).frm hfs (fun a ha => (N7.out a ha).2.2))
  clear r f kb k2 hfs KB9 K29 R9 BE9 S7_9
  go_wp2_with fail
  clear q0 z0
  generalize w'.setCell ⟨g5, 9, none⟩ (.int .u64 ((q10 bs).1 : Int)) = W at *
  have CC : Hid (Calls Try.prog 64 #[.pointer (some ⟨g, 0, none⟩), .int .i64 24] W (RdPost 105 g AR bs (.string ⟨(q11 bs).1.toArray⟩) (q11 bs).2 W)) := rtextR_any g AR bs 24 (q10 bs).2 _ R10.out ⟨by omega, by omega⟩
  refine CC.out.mono ?_
  clear CC
  rintro e w' ⟨rfl, r, f⟩
  have kb := KB10.out.frm f (fun e => HL5.out g (.inl rfl) e.symm)
  have k2 := K210.out.frm f (fun e => by have := HO.out g (.inl rfl); omega)
  have q0 : w'.cell? ⟨g5, 10, none⟩ = some (.string ⟨#[]⟩) := kb.cell 10
  have z0 : w'.frozen? ⟨g5, 10, none⟩ = false := kb.frozen 10
  have hfs : Frm (· = g5) w' (w'.setCell ⟨g5, 10, none⟩ (.string ⟨(q11 bs).1.toArray⟩)) := (Frm.refl (· = g5) w').setCell (fun _ => rfl) _
  have KB11 : Hid (Blk (w'.setCell ⟨g5, 10, none⟩ (.string ⟨(q11 bs).1.toArray⟩)) g5 27 #[.int .i64 (q1 bs).1, .int .i64 (q2 bs).1, .int .i64 (q3 bs).1, .int .i64 (q4 bs).1, .int .i64 (q5 bs).1, .string ⟨(q6 bs).1.toArray⟩, .string ⟨(q7 bs).1.toArray⟩, .slice A7 (q8 bs).1.length c7, .int .u64 ((q9 bs).1 : Int), .int .u64 ((q10 bs).1 : Int), .string ⟨(q11 bs).1.toArray⟩, .slice none 0 0]) := kb.put 10 _
  have K211 : Hid (Blk (w'.setCell ⟨g5, 10, none⟩ (.string ⟨(q11 bs).1.toArray⟩)) w.heap.size 27 #[.int .i64 0, .int .i64 0, .int .i64 0, .int .i64 0, .int .i64 0, .string ⟨#[]⟩, .string ⟨#[]⟩, .slice none 0 0, .int .u64 0, .int .u64 0, .string ⟨#[]⟩, .slice none 0 0]) := k2.frm hfs (fun e => by have := HG5.out; omega)
  have R11 : Hid (Rd 105 (w'.setCell ⟨g5, 10, none⟩ (.string ⟨(q11 bs).1.toArray⟩)) g AR bs (q11 bs).2) := Rd.keep (s := (q11 bs).2) r hfs HL5.out
  have BE11 : Hid (Below w.heap.size w (w'.setCell ⟨g5, 10, none⟩ (.string ⟨(q11 bs).1.toArray⟩))) := BE10.out.trans ((f.below BE10.out.size (fun i hi e => by have := HO.out g (.inl rfl); omega)).trans (hfs.below (Nat.le_trans BE10.out.size f.size) (fun i hi e => by have := HG5.out; omega)))
  have S7_11 := Lib.hid ((S7_10.out.frm f (fun a ha => (N7.out a ha).2.1)).frm hfs (fun a ha => (N7.out a ha).2.2))
  clear r f kb k2 hfs KB10 K210 R10 BE10 S7_10
  go_wp2_with fail
  clear q0 z0
  generalize w'.setCell ⟨g5, 10, none⟩ (.string ⟨(q11 bs).1.toArray⟩) = W at *
  have CC : Hid (Calls Try.prog 65 #[.pointer (some ⟨g, 0, none⟩), .int .i64 256] W (RdIntsPost 105 g AR bs (q12 bs).1 (q12 bs).2 W)) := rintsR_any g AR bs 256 (q11 bs).2 _ R11.out ⟨by omega, by omega⟩
  refine CC.out.mono ?_
  clear CC
  rintro e w' ⟨x, rfl, ho, hk, r, f⟩
  obtain ⟨A11, c11, rfl, hsl⟩ := own_form ho
  have N11 : Hid (∀ a, A11 = some a → w.heap.size < a.block ∧ a.block ≠ g ∧ a.block ≠ g5) := Lib.hid (fun a ha => by
    have h1 := hk a.block (by rw [ha]; rfl)
    have h2 := R11.out.rown_lt (.inl rfl)
    have h3 := KB11.out.lt
    have h4 := HG5.out
    exact ⟨by omega, by omega, by omega⟩)
  have S11_11 := Lib.hid hsl
  clear ho hk hsl
  have kb := KB11.out.frm f (fun e => HL5.out g (.inl rfl) e.symm)
  have k2 := K211.out.frm f (fun e => by have := HO.out g (.inl rfl); omega)
  have q0 : w'.cell? ⟨g5, 11, none⟩ = some (.slice none 0 0) := kb.cell 11
  have z0 : w'.frozen? ⟨g5, 11, none⟩ = false := kb.frozen 11
  have hfs : Frm (· = g5) w' (w'.setCell ⟨g5, 11, none⟩ (.slice A11 (q12 bs).1.length c11)) := (Frm.refl (· = g5) w').setCell (fun _ => rfl) _
  have KB12 : Hid (Blk (w'.setCell ⟨g5, 11, none⟩ (.slice A11 (q12 bs).1.length c11)) g5 27 #[.int .i64 (q1 bs).1, .int .i64 (q2 bs).1, .int .i64 (q3 bs).1, .int .i64 (q4 bs).1, .int .i64 (q5 bs).1, .string ⟨(q6 bs).1.toArray⟩, .string ⟨(q7 bs).1.toArray⟩, .slice A7 (q8 bs).1.length c7, .int .u64 ((q9 bs).1 : Int), .int .u64 ((q10 bs).1 : Int), .string ⟨(q11 bs).1.toArray⟩, .slice A11 (q12 bs).1.length c11]) := kb.put 11 _
  have K212 : Hid (Blk (w'.setCell ⟨g5, 11, none⟩ (.slice A11 (q12 bs).1.length c11)) w.heap.size 27 #[.int .i64 0, .int .i64 0, .int .i64 0, .int .i64 0, .int .i64 0, .string ⟨#[]⟩, .string ⟨#[]⟩, .slice none 0 0, .int .u64 0, .int .u64 0, .string ⟨#[]⟩, .slice none 0 0]) := k2.frm hfs (fun e => by have := HG5.out; omega)
  have R12 : Hid (Rd 105 (w'.setCell ⟨g5, 11, none⟩ (.slice A11 (q12 bs).1.length c11)) g AR bs (q12 bs).2) := Rd.keep (s := (q12 bs).2) r hfs HL5.out
  have BE12 : Hid (Below w.heap.size w (w'.setCell ⟨g5, 11, none⟩ (.slice A11 (q12 bs).1.length c11))) := BE11.out.trans ((f.below BE11.out.size (fun i hi e => by have := HO.out g (.inl rfl); omega)).trans (hfs.below (Nat.le_trans BE11.out.size f.size) (fun i hi e => by have := HG5.out; omega)))
  have S7_12 := Lib.hid ((S7_11.out.frm f (fun a ha => (N7.out a ha).2.1)).frm hfs (fun a ha => (N7.out a ha).2.2))
  have S11_12 := Lib.hid (S11_11.out.frm hfs (fun a ha => (N11.out a ha).2.2))
  clear r f kb k2 hfs KB11 K211 R11 BE11 S7_11 S11_11
  go_wp2_with fail
  clear q0 z0
  generalize w'.setCell ⟨g5, 11, none⟩ (.slice A11 (q12 bs).1.length c11) = W at *
  refine (rerrR_any g AR bs (q12 bs).2 _ R12.out).mono ?_
  rintro e w' ⟨rfl, rfl⟩
  have HD : Hid (decErr bs = if (q12 bs).2.err = 0 then (if 0 < rLeft bs (q12 bs).2 then 1 else 0) else (q12 bs).2.err) := rfl
  have HDC : Hid (dec bs = if decErr bs = 0 then got bs else none_) := rfl
  by_cases he : (q12 bs).2.err = 0
  · have te : ((q12 bs).2.err != 0) = false := by simp [he]
    have HEr := Lib.hid he
    clear he
    go_wp2_with fail
    refine (rleftR_any g AR bs (q12 bs).2 _ R12.out).mono ?_
    rintro e w' ⟨rfl, q, rfl⟩
    have stz' : (storeRow 27 (.pointer (some ⟨w.heap.size, 0, none⟩)) (.agg #[.int .i64 0, .int .i64 0, .int .i64 0, .int .i64 0, .int .i64 0, .string ⟨#[]⟩, .string ⟨#[]⟩, .slice none 0 0, .int .u64 0, .int .u64 0, .string ⟨#[]⟩, .slice none 0 0])).run Try.prog (W.drewN q) = .ok () ((W.drewN q).setRow w.heap.size #[.int .i64 0, .int .i64 0, .int .i64 0, .int .i64 0, .int .i64 0, .string ⟨#[]⟩, .string ⟨#[]⟩, .slice none 0 0, .int .u64 0, .int .u64 0, .string ⟨#[]⟩, .slice none 0 0]) := store_rec (K212.out.drewN q) rfl rfl rfl
    have stg' : (storeRow 27 (.pointer (some ⟨w.heap.size, 0, none⟩)) (.agg #[.int .i64 (q1 bs).1, .int .i64 (q2 bs).1, .int .i64 (q3 bs).1, .int .i64 (q4 bs).1, .int .i64 (q5 bs).1, .string ⟨(q6 bs).1.toArray⟩, .string ⟨(q7 bs).1.toArray⟩, .slice A7 (q8 bs).1.length c7, .int .u64 ((q9 bs).1 : Int), .int .u64 ((q10 bs).1 : Int), .string ⟨(q11 bs).1.toArray⟩, .slice A11 (q12 bs).1.length c11])).run Try.prog (W.drewN q) = .ok () ((W.drewN q).setRow w.heap.size #[.int .i64 (q1 bs).1, .int .i64 (q2 bs).1, .int .i64 (q3 bs).1, .int .i64 (q4 bs).1, .int .i64 (q5 bs).1, .string ⟨(q6 bs).1.toArray⟩, .string ⟨(q7 bs).1.toArray⟩, .slice A7 (q8 bs).1.length c7, .int .u64 ((q9 bs).1 : Int), .int .u64 ((q10 bs).1 : Int), .string ⟨(q11 bs).1.toArray⟩, .slice A11 (q12 bs).1.length c11]) := store_rec (K212.out.drewN q) rfl rfl rfl
    have lg' : (loadRow 27 (.pointer (some ⟨g5, 0, none⟩))).run Try.prog (W.drewN q) = .ok (.agg #[.int .i64 (q1 bs).1, .int .i64 (q2 bs).1, .int .i64 (q3 bs).1, .int .i64 (q4 bs).1, .int .i64 (q5 bs).1, .string ⟨(q6 bs).1.toArray⟩, .string ⟨(q7 bs).1.toArray⟩, .slice A7 (q8 bs).1.length c7, .int .u64 ((q9 bs).1 : Int), .int .u64 ((q10 bs).1 : Int), .string ⟨(q11 bs).1.toArray⟩, .slice A11 (q12 bs).1.length c11]) (W.drewN q) := load_blk (KB12.out.drewN q) rfl
    have BZ' : Hid (∀ cs, Below w.heap.size w ((W.drewN q).setRow w.heap.size cs)) := fun cs => (below_drewN BE12.out q).trans ((frm_setRow (W.drewN q) w.heap.size cs).below BE12.out.size (fun i hi e => by omega))
    have BL' : Hid (∀ cs, Blk ((W.drewN q).setRow w.heap.size cs) w.heap.size 27 cs) := fun cs => Blk_setRow (K212.out.drewN q) cs
    have IZ : Hid (∀ W, IsRec W #[.int .i64 0, .int .i64 0, .int .i64 0, .int .i64 0, .int .i64 0, .string ⟨#[]⟩, .string ⟨#[]⟩, .slice none 0 0, .int .u64 0, .int .u64 0, .string ⟨#[]⟩, .slice none 0 0] none_) := fun W => is_none W
    have IG : Hid (IsRec ((W.drewN q).setRow w.heap.size #[.int .i64 (q1 bs).1, .int .i64 (q2 bs).1, .int .i64 (q3 bs).1, .int .i64 (q4 bs).1, .int .i64 (q5 bs).1, .string ⟨(q6 bs).1.toArray⟩, .string ⟨(q7 bs).1.toArray⟩, .slice A7 (q8 bs).1.length c7, .int .u64 ((q9 bs).1 : Int), .int .u64 ((q10 bs).1 : Int), .string ⟨(q11 bs).1.toArray⟩, .slice A11 (q12 bs).1.length c11]) #[.int .i64 (q1 bs).1, .int .i64 (q2 bs).1, .int .i64 (q3 bs).1, .int .i64 (q4 bs).1, .int .i64 (q5 bs).1, .string ⟨(q6 bs).1.toArray⟩, .string ⟨(q7 bs).1.toArray⟩, .slice A7 (q8 bs).1.length c7, .int .u64 ((q9 bs).1 : Int), .int .u64 ((q10 bs).1 : Int), .string ⟨(q11 bs).1.toArray⟩, .slice A11 (q12 bs).1.length c11] (got bs)) := Lib.hid ⟨A7, c7, A11, c11, rfl, (S7_12.out.drewN q).frm (frm_setRow _ _ _) (fun a ha e => absurd (N7.out a ha).1 (by omega)), (S11_12.out.drewN q).frm (frm_setRow _ _ _) (fun a ha e => absurd (N11.out a ha).1 (by omega)), Nat.le_trans (rIs_fine mList (q7_ok bs)).2.2.1 HN.out, Nat.le_trans (rIs_fine mList (q11_ok bs)).2.2.1 HN.out⟩
    have LS : Hid (Lst (fun i => w.heap.size ≤ i) #[.int .i64 (q1 bs).1, .int .i64 (q2 bs).1, .int .i64 (q3 bs).1, .int .i64 (q4 bs).1, .int .i64 (q5 bs).1, .string ⟨(q6 bs).1.toArray⟩, .string ⟨(q7 bs).1.toArray⟩, .slice A7 (q8 bs).1.length c7, .int .u64 ((q9 bs).1 : Int), .int .u64 ((q10 bs).1 : Int), .string ⟨(q11 bs).1.toArray⟩, .slice A11 (q12 bs).1.length c11]) := Lib.hid (lst_two (fun a ha => Nat.le_of_lt (N7.out a ha).1) (fun a ha => Nat.le_of_lt (N11.out a ha).1))
    by_cases hlf : 0 < rLeft bs (q12 bs).2
    · have HE1 : Hid (decErr bs = 1) := by show _ = _; rw [HD.out, if_pos HEr.out, if_pos hlf]
      have HE2 : Hid (dec bs = none_) := by show _ = _; rw [HDC.out, HE1.out]; rfl
      have hli : (0 : Int) < (rLeft bs (q12 bs).2 : Int) := by omega
      go_wp2_with fail
      exact ret_rec2 Try.results23 rfl rfl (BL'.out _) rfl ⟨_, by rw [HE1.out]; rfl, by rw [HE2.out]; exact IZ.out _, BZ'.out _, lst_zero _⟩
    · have HE1 : Hid (decErr bs = 0) := by show _ = _; rw [HD.out, if_pos HEr.out, if_neg hlf]
      have HE2 : Hid (dec bs = got bs) := by show _ = _; rw [HDC.out, HE1.out]; rfl
      have hli : (rLeft bs (q12 bs).2 : Int) = 0 := by omega
      have hll : rLeft bs (q12 bs).2 = 0 := by omega
      clear hlf
      go_wp2_with fail
      exact ret_rec2 Try.results23 rfl rfl (BL'.out _) rfl ⟨_, by rw [HE1.out]; rfl, by rw [HE2.out]; exact IG.out, BZ'.out _, LS.out⟩
  · have te : ((q12 bs).2.err != 0) = true := by simp [he]
    have HE1 : Hid (decErr bs = (q12 bs).2.err) := by show _ = _; rw [HD.out, if_neg he]
    have HE2 : Hid (dec bs = none_) := by show _ = _; rw [HDC.out, if_neg (by rw [HE1.out]; exact he)]
    have stz := store_rec (cs := #[.int .i64 0, .int .i64 0, .int .i64 0, .int .i64 0, .int .i64 0, .string ⟨#[]⟩, .string ⟨#[]⟩, .slice none 0 0, .int .u64 0, .int .u64 0, .string ⟨#[]⟩, .slice none 0 0]) K212.out rfl rfl rfl
    have BZ : Hid (∀ cs, Below w.heap.size w (W.setRow w.heap.size cs)) := fun cs => BE12.out.trans ((frm_setRow W w.heap.size cs).below BE12.out.size (fun i hi e => by omega))
    have BL : Hid (∀ cs, Blk (W.setRow w.heap.size cs) w.heap.size 27 cs) := fun cs => Blk_setRow K212.out cs
    have IZ : Hid (∀ W, IsRec W #[.int .i64 0, .int .i64 0, .int .i64 0, .int .i64 0, .int .i64 0, .string ⟨#[]⟩, .string ⟨#[]⟩, .slice none 0 0, .int .u64 0, .int .u64 0, .string ⟨#[]⟩, .slice none 0 0] none_) := fun W => is_none W
    clear he
    go_wp2_with fail
    refine (rerrR_any g AR bs (q12 bs).2 _ R12.out).mono ?_
    rintro e w' ⟨rfl, rfl⟩
    go_wp2_with fail
    exact ret_rec2 Try.results23 rfl rfl (BL.out _) rfl ⟨_, by rw [HE1.out]; rfl, by rw [HE2.out]; exact IZ.out _, BZ.out _, lst_zero _⟩
end Go.Proofs.Ythpmngdpgniehaa.Jr
