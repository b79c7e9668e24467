/-
  The walk of copied (journal): a new list with the same numbers. Conditions: the list lies in memory, of at most 5000 elements.
-/
import Derived.Test.YthpmngdpgniehaaJrLim
import Derived.Laws.CopyRow
import Derived.Laws.MakeOwn
namespace Go.Proofs.Ythpmngdpgniehaa.Jr
open Go.RowKit Go.Proofs.Ythpmngdpgniehaa.Mem Go.Proofs.Ythpmngdpgniehaa.Wr Go.Proofs.Ythpmngdpgniehaa.Opn

/-- a call that hands back a new list. -/
def NewInts (l : List Int) (w : World) (e : Ending) (w' : World) : Prop :=
  ∃ A c, e = .returned (.slice A l.length c) ∧ Sl w' 1 A l.length (ints l) ∧ (∀ a, A = some a → w.heap.size ≤ a.block) ∧ Below w.heap.size w w'
theorem make_ints (W : World) (n : Nat) (hn : n ≤ 5000) : (Instr.makeSlice 22 (.int .i64 (n : Int)) (.int .i64 (n : Int))).run Try.prog W = .ok (.slice (some ⟨W.heap.size, 0, none⟩) n n) (W.alloc (.cells (madeCells #[.int .i64 0] n) 3)) := by
  obtain ⟨i0, hi0, hz0, hz1, hz2⟩ := info_parts int_info
  have := run_makeSlice (P := Try.prog) W 22 3 i0 (.int .i64 0) Try.underlying22 hi0 hz0 .i64 .i64 (n : Int) (n : Int) (by omega) (by omega) (by rw [hz1, Int.toNat_natCast]; omega) (by rw [hz2]; omega) (by omega)
  rw [Int.toNat_natCast, hz1, Nat.mul_one] at this
  exact this
theorem copy_ints (W : World) (g n c : Nat) (b off : Nat) (l : List Int) (cur : Array Value) (ty : TypeId) (hg : Blk W g 3 cur) (hc : cur.size = n) (hl : l.length = n) (hs : ∀ j u, (ints l)[j]? = some u → W.cell? ⟨b, off + j, none⟩ = some u) :
    (Builtin.copy_ #[22, 22] ty #[.slice (some ⟨g, 0, none⟩) n n, .slice (some ⟨b, off, none⟩) n c]).run Try.prog W = .ok (goInt (n : Int)) (W.setRow g (ints l).toArray) := by
  obtain ⟨i0, hi0, hz0, hz1, hz2⟩ := info_parts int_info
  have hil : (ints l).length = n := by rw [ints_len, hl]
  have := run_copy_row (P := Try.prog) W 22 22 ty 3 g 0 n n ⟨b, off, none⟩ n c cur 3 (ints l) Try.underlying22 (by rw [hi0]; exact congrArg some hz1) hg (by rw [hil]; exact (Nat.min_self n).symm) (fun j v hv => by rw [Addr.add_lit]; exact hs j v hv) (by rw [Nat.zero_add, hil, hc]; exact Nat.le_refl _) (ints_one _)
  rw [this, hil, Nat.zero_add, List.take_zero, List.nil_append, List.drop_of_length_le (by rw [Array.length_toList, hc]; exact Nat.le_refl _), List.append_nil]
set_option maxRecDepth 100000 in
set_option maxHeartbeats 2000000 in
theorem copied_any (l : List Int) (A : Option Addr) (n c : Nat) (w : World) (hs : Sl w 1 A n (ints l)) (hn : n ≤ 5000) :
    Calls Try.prog 76 #[.slice A n c] w (NewInts l w) := by
  have hl : l.length = n := by have := hs.1; simpa [ints_len] using this
  by_cases h0 : n = 0
  · subst h0
    obtain rfl : l = [] := List.eq_nil_of_length_eq_zero hl
    clear hs hl hn
    go_enter Try.func76, Try.ntmps76
    go_wp2_with fail
    go_ret
    exact ⟨none, 0, rfl, Sl.nil_ _ _ _, (fun a h => by cases h), Below.refl _ _⟩
  · obtain ⟨b, off, rfl, hc⟩ := hs.open_ (by omega)
    have hmk := make_ints w n hn
    have kb : Blk (w.alloc (.cells (madeCells #[.int .i64 0] n) 3)) w.heap.size 3 (madeCells #[.int .i64 0] n) := Blk.new _ _ _
    have hcp := fun ty => copy_ints (w.alloc (.cells (madeCells #[.int .i64 0] n) 3)) w.heap.size n c b off l _ ty kb (size_madeCells _ _) hl (fun j u hu => (hs.alloc _).2 (by omega) |>.elim fun b' h => h.elim fun o' h => by
      obtain ⟨e, h2⟩ := h
      injection e with e
      injection e with e1 e2
      subst e1 e2
      exact h2 j u hu)
    have BB : Hid (Below w.heap.size w ((w.alloc (.cells (madeCells #[.int .i64 0] n) 3)).setRow w.heap.size (ints l).toArray)) := Lib.hid (((Below.refl _ w).alloc (Nat.le_refl _) _).trans ((frm_setRow _ _ _).below (by simp) (fun i hi e => by omega)))
    have KK : Hid (Blk ((w.alloc (.cells (madeCells #[.int .i64 0] n) 3)).setRow w.heap.size (ints l).toArray) w.heap.size 3 (ints l).toArray) := Lib.hid (Blk_setRow kb _)
    have n0 : ((n : Int) == 0) = false := by simp; omega
    have HL := Lib.hid hl
    clear hs hc kb hl hn h0
    go_enter Try.func76, Try.ntmps76
    go_wp2_with fail
    go_ret
    refine ⟨some ⟨w.heap.size, 0, none⟩, n, by rw [HL.out]; rfl, ⟨by rw [ints_len, Nat.mul_one], fun _ => ⟨_, 0, rfl, fun j u hu => ?_⟩⟩, (fun a h => by injection h with h; subst h; exact Nat.le_refl _), BB.out⟩
    rw [Nat.zero_add]
    refine (KK.out.cell j).trans ?_
    simpa using hu
end Go.Proofs.Ythpmngdpgniehaa.Jr
