/-
  The walk of clone (journal): a record with the same fields. Conditions: the record lies in memory, its lists of at most 5000 elements.
-/
import Derived.Test.YthpmngdpgniehaaJrCopy
namespace Go.Proofs.Ythpmngdpgniehaa.Jr
open Go.RowKit Go.Proofs.Ythpmngdpgniehaa.Mem Go.Proofs.Ythpmngdpgniehaa.Wr Go.Proofs.Ythpmngdpgniehaa.Opn
attribute [local go_sem ↓] exec_load_rec exec_store_rec

/-- a call that hands back a record with lists of its own. -/
def RetRec (r : Rec) (w : World) (e : Ending) (w' : World) : Prop := ∃ cs, e = .returned (.agg cs) ∧ IsRec w' cs r ∧ Below w.heap.size w w' ∧ Lst (fun i => w.heap.size ≤ i) cs
theorem ret_rec {fn : Func} {p : Tmp} {R : Ending → World → Prop} {a : Act} {w : World} {g : Nat} {cs : Array Value} (h : fn.results = #[.cell p 27]) (hd : a.defers = [])
    (hp : a.tmps.getD p undef = .pointer (some ⟨g, 0, none⟩)) (hg : Blk w g 27 cs) (hs : cs.size = 12) (hR : R (.returned (.agg cs)) w) : bodyPost Try.prog fn R .ret a w := by
  have hr : (results fn a.tmps).run Try.prog w = .ok (.agg cs) w := results_cell_row h a.tmps w g _ cs (0, 0) _ hp hg Try.underlying27 rfl (size_rec.trans (congrArg some hs.symm))
  exact bodyPost_ret hr hd hR
set_option maxRecDepth 100000 in
set_option maxHeartbeats 4000000 in
theorem clone_any (r : Rec) (cs : Array Value) (w : World) (hr : IsRec w cs r) (h7l : r.nums.length ≤ 5000) (h11l : r.amts.length ≤ 5000) :
    Calls Try.prog 37 #[.agg cs] w (RetRec r w) := by
  obtain ⟨A7, c7, A11, c11, rfl, h7, h11, m7, m11⟩ := hr
  unfold recCells
  obtain ⟨W, hW⟩ : ∃ W, W = (w.alloc (.cells #[.int .i64 r.k0, .int .i64 r.k1, .int .i64 r.k2, .int .i64 r.k3, .int .i64 r.k4, .string r.name, .string r.text, .slice A7 r.nums.length c7, .int .u64 r.key, .int .u64 r.nonce, .string r.ticket, .slice A11 r.amts.length c11] 27)).alloc (.cells #[.int .i64 0, .int .i64 0, .int .i64 0, .int .i64 0, .int .i64 0, .string ⟨#[]⟩, .string ⟨#[]⟩, .slice none 0 0, .int .u64 0, .int .u64 0, .string ⟨#[]⟩, .slice none 0 0] 27) := ⟨_, rfl⟩
  have KB : Hid (Blk W w.heap.size 27 #[.int .i64 r.k0, .int .i64 r.k1, .int .i64 r.k2, .int .i64 r.k3, .int .i64 r.k4, .string r.name, .string r.text, .slice A7 r.nums.length c7, .int .u64 r.key, .int .u64 r.nonce, .string r.ticket, .slice A11 r.amts.length c11]) := by rw [hW]; exact heap_alloc2_old _ _ _
  have KR : Hid (Blk W (w.heap.size + 1) 27 #[.int .i64 0, .int .i64 0, .int .i64 0, .int .i64 0, .int .i64 0, .string ⟨#[]⟩, .string ⟨#[]⟩, .slice none 0 0, .int .u64 0, .int .u64 0, .string ⟨#[]⟩, .slice none 0 0]) := by rw [hW]; exact heap_alloc2_new _ _ _
  have B0 : Hid (Below w.heap.size w W) := by rw [hW]; exact ((Below.refl _ _).alloc (Nat.le_refl _) _).alloc (by simp) _
  have Z0 : Hid (w.heap.size + 1 < W.heap.size) := Lib.hid KR.out.lt
  have S7 : Hid (Sl W 1 A7 r.nums.length (ints r.nums)) := Lib.hid (h7.below B0.out (Nat.le_refl _))
  have S11 : Hid (Sl W 1 A11 r.amts.length (ints r.amts)) := Lib.hid (h11.below B0.out (Nat.le_refl _))
  have L7 := Lib.hid h7l
  have L11 := Lib.hid h11l
  have O11 : Hid (0 < r.amts.length → ∀ a, A11 = some a → a.block < w.heap.size) := Lib.hid (sl_old h11)
  have M7 := Lib.hid m7
  have M11 := Lib.hid m11
  have HW := Lib.hid hW
  have q7 : W.cell? ⟨w.heap.size, 7, none⟩ = some (.slice A7 r.nums.length c7) := KB.out.cell 7
  clear hW h7 h11 h7l h11l m7 m11
  go_enter Try.func37, Try.ntmps37
  go_wp2_with fail
  rw [← HW.out]
  go_wp2_with fail
  refine (copied_any r.nums A7 _ c7 _ S7.out L7.out).mono ?_
  rintro e w1 ⟨B7, d7, rfl, s7, n7, b1⟩
  have kb := KB.out.below b1 KB.out.lt
  have q7 : w1.cell? ⟨w.heap.size, 7, none⟩ = some (.slice A7 r.nums.length c7) := kb.cell 7
  have z7 : w1.frozen? ⟨w.heap.size, 7, none⟩ = false := kb.frozen 7
  have hfs : Frm (· = w.heap.size) w1 (w1.setCell ⟨w.heap.size, 7, none⟩ (.slice B7 r.nums.length d7)) := (Frm.refl (· = w.heap.size) w1).setCell (fun _ => rfl) _
  have KB2 : Hid (Blk (w1.setCell ⟨w.heap.size, 7, none⟩ (.slice B7 r.nums.length d7)) w.heap.size 27 #[.int .i64 r.k0, .int .i64 r.k1, .int .i64 r.k2, .int .i64 r.k3, .int .i64 r.k4, .string r.name, .string r.text, .slice B7 r.nums.length d7, .int .u64 r.key, .int .u64 r.nonce, .string r.ticket, .slice A11 r.amts.length c11]) := Lib.hid (kb.put 7 _)
  have KR2 := Lib.hid ((KR.out.below b1 KR.out.lt).frm hfs (fun e => by omega))
  have N7 : Hid (∀ a, B7 = some a → w.heap.size + 1 < a.block) := Lib.hid (fun a ha => Nat.lt_of_lt_of_le Z0.out (n7 a ha))
  have T7 := Lib.hid (s7.frm hfs (fun a ha e => by have := N7.out a ha; omega))
  have S12 : Hid (Sl (w1.setCell ⟨w.heap.size, 7, none⟩ (.slice B7 r.nums.length d7)) 1 A11 r.amts.length (ints r.amts)) := Lib.hid (by
    rcases Nat.eq_zero_or_pos r.amts.length with h0 | h0
    · exact ⟨by rw [ints_len, Nat.mul_one], fun h => by omega⟩
    · exact (S11.out.below b1 (Nat.le_refl _)).frm hfs (fun a ha e => by have := O11.out h0 a ha; omega))
  have B2 := Lib.hid (B0.out.trans ((b1.mono B0.out.size).trans (hfs.below (Nat.le_trans B0.out.size b1.size) (fun i hi e => by omega))))
  have Z2 : Hid (w.heap.size + 1 < (w1.setCell ⟨w.heap.size, 7, none⟩ (.slice B7 r.nums.length d7)).heap.size) := Lib.hid KR2.out.lt
  have q11 : w1.cell? ⟨w.heap.size, 11, none⟩ = some (.slice A11 r.amts.length c11) := kb.cell 11
  have p11 : (w1.setCell ⟨w.heap.size, 7, none⟩ (.slice B7 r.nums.length d7)).cell? ⟨w.heap.size, 11, none⟩ = some (.slice A11 r.amts.length c11) := KB2.out.cell 11
  clear kb hfs s7 n7 b1 S11 S7 KB KR B0 Z0 HW
  go_wp2_with fail
  clear q7 z7 q11 p11
  generalize w1.setCell ⟨w.heap.size, 7, none⟩ (.slice B7 r.nums.length d7) = W2 at *
  refine (copied_any r.amts A11 _ c11 _ S12.out L11.out).mono ?_
  rintro e w3 ⟨B11, d11, rfl, s11, n11, b3⟩
  have kb := KB2.out.below b3 KB2.out.lt
  have q11 : w3.cell? ⟨w.heap.size, 11, none⟩ = some (.slice A11 r.amts.length c11) := kb.cell 11
  have z11 : w3.frozen? ⟨w.heap.size, 11, none⟩ = false := kb.frozen 11
  have hfs : Frm (· = w.heap.size) w3 (w3.setCell ⟨w.heap.size, 11, none⟩ (.slice B11 r.amts.length d11)) := (Frm.refl (· = w.heap.size) w3).setCell (fun _ => rfl) _
  have KB4 : Hid (Blk (w3.setCell ⟨w.heap.size, 11, none⟩ (.slice B11 r.amts.length d11)) w.heap.size 27 #[.int .i64 r.k0, .int .i64 r.k1, .int .i64 r.k2, .int .i64 r.k3, .int .i64 r.k4, .string r.name, .string r.text, .slice B7 r.nums.length d7, .int .u64 r.key, .int .u64 r.nonce, .string r.ticket, .slice B11 r.amts.length d11]) := Lib.hid (kb.put 11 _)
  have KR4 := Lib.hid ((KR2.out.below b3 KR2.out.lt).frm hfs (fun e => by omega))
  have N11 : Hid (∀ a, B11 = some a → w.heap.size + 1 < a.block) := Lib.hid (fun a ha => Nat.lt_of_lt_of_le Z2.out (n11 a ha))
  have T11 := Lib.hid (s11.frm hfs (fun a ha e => by have := N11.out a ha; omega))
  have T7b := Lib.hid ((T7.out.below b3 (Nat.le_refl _)).frm hfs (fun a ha e => by have := N7.out a ha; omega))
  have B4 := Lib.hid (B2.out.trans ((b3.mono B2.out.size).trans (hfs.below (Nat.le_trans B2.out.size b3.size) (fun i hi e => by omega))))
  have st := store_rec (cs := #[.int .i64 r.k0, .int .i64 r.k1, .int .i64 r.k2, .int .i64 r.k3, .int .i64 r.k4, .string r.name, .string r.text, .slice B7 r.nums.length d7, .int .u64 r.key, .int .u64 r.nonce, .string r.ticket, .slice B11 r.amts.length d11]) KR4.out rfl rfl rfl
  have ld := load_blk KB4.out rfl
  have IR : Hid (IsRec ((w3.setCell ⟨w.heap.size, 11, none⟩ (.slice B11 r.amts.length d11)).setRow (w.heap.size + 1) #[.int .i64 r.k0, .int .i64 r.k1, .int .i64 r.k2, .int .i64 r.k3, .int .i64 r.k4, .string r.name, .string r.text, .slice B7 r.nums.length d7, .int .u64 r.key, .int .u64 r.nonce, .string r.ticket, .slice B11 r.amts.length d11]) #[.int .i64 r.k0, .int .i64 r.k1, .int .i64 r.k2, .int .i64 r.k3, .int .i64 r.k4, .string r.name, .string r.text, .slice B7 r.nums.length d7, .int .u64 r.key, .int .u64 r.nonce, .string r.ticket, .slice B11 r.amts.length d11] r) := Lib.hid ⟨B7, d7, B11, d11, rfl, T7b.out.frm (frm_setRow _ _ _) (fun a ha e => by have := N7.out a ha; omega), T11.out.frm (frm_setRow _ _ _) (fun a ha e => by have := N11.out a ha; omega), M7.out, M11.out⟩
  have LS : Hid (Lst (fun i => w.heap.size ≤ i) #[.int .i64 r.k0, .int .i64 r.k1, .int .i64 r.k2, .int .i64 r.k3, .int .i64 r.k4, .string r.name, .string r.text, .slice B7 r.nums.length d7, .int .u64 r.key, .int .u64 r.nonce, .string r.ticket, .slice B11 r.amts.length d11]) := Lib.hid (lst_two (fun a ha => by have := N7.out a ha; omega) (fun a ha => by have := N11.out a ha; omega))
  have BL := Lib.hid (Blk_setRow KR4.out #[.int .i64 r.k0, .int .i64 r.k1, .int .i64 r.k2, .int .i64 r.k3, .int .i64 r.k4, .string r.name, .string r.text, .slice B7 r.nums.length d7, .int .u64 r.key, .int .u64 r.nonce, .string r.ticket, .slice B11 r.amts.length d11])
  have BZ : Hid (∀ cs, Below w.heap.size w ((w3.setCell ⟨w.heap.size, 11, none⟩ (.slice B11 r.amts.length d11)).setRow (w.heap.size + 1) cs)) := Lib.hid (fun cs => B4.out.trans ((frm_setRow _ _ cs).below B4.out.size (fun i hi e => by omega)))
  clear kb hfs s11 n11 b3 S12 KB2 KR2 B2 Z2 T7 T11 T7b N7 N11 B4 KB4 KR4 O11 L7 L11 M7 M11
  go_wp2_with fail
  exact ret_rec Try.results37 rfl rfl BL.out rfl ⟨_, rfl, IR.out, BZ.out _, LS.out⟩
end Go.Proofs.Ythpmngdpgniehaa.Jr
