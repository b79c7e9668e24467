/-
  The walks of set and later of package lotterylaw54: totals in which one field has another number. Conditions: the totals are a value, the field's number is below 17.
-/
import Derived.Test.YtlfcbfaoecdmoaaRcLaws
namespace Go.Proofs.Ytlfcbfaoecdmoaa.Rc
open Go.RowKit Go.Proofs.Ytlfcbfaoecdmoaa.Mem Go.Proofs.Ytlfcbfaoecdmoaa.Eqs Go.Proofs.Ytlfcbfaoecdmoaa.Jr

/-- totals in which the field k has another number. -/
def upd (f : Nat → Int) (k : Nat) (n : Int) : Nat → Int := fun j => if j = k then n else f j
/-- a call that hands back totals. -/
def RetT (v : Value) (w : World) (e : Ending) (w' : World) : Prop := e = .returned v ∧ Below w.heap.size w w'
/-- a store of a whole struct, kept shut. -/
def storeRow (t : TypeId) (p v : Value) : Sem Unit := Instr.storeAt t p v
theorem exec_store_tot (ρ : Operand → Value) (dst : Option Tmp) (x y : Operand) (ty : TypeId) (pos : String) (after : Array Edge) (guard : Option (Nat × Bool)) :
    execOp ρ { dst, op := .store 23 x y, type := ty, pos, after, guard } = (do storeRow 23 (ρ x) (ρ y); pure .skip) := rfl
attribute [local go_sem ↓] exec_load_tot exec_store_tot
theorem store_tot {W : World} {g : Nat} {old cs : Array Value} (h : Blk W g 23 old) (ho : old.size = 17) (hs : cs.size = 17) (h1 : cs.toList.all (·.oneCell') = true) : (storeRow 23 (.pointer (some ⟨g, 0, none⟩)) (.agg cs)).run Try.prog W = .ok () (W.setRow g cs) := by
  unfold storeRow
  simp only [Instr.storeAt, Instr.sureAddr, Sem.run_bind, Sem.run_pure, Result.andThen_ok, run_storeVar_row W g 23 23 old cs h (size_tot.trans (congrArg some hs.symm)) (ho.trans hs.symm) (by rw [← Array.all_toList]; exact h1)]
theorem Blk_setRow {w : World} {g : Nat} {t : TypeId} {old : Array Value} (h : Blk w g t old) (cs : Array Value) : Blk (w.setRow g cs) g t cs := setRow_heap w g old cs t (0, 0) h
theorem bel_setRow {B g : Nat} {w0 w : World} (hb : Below B w0 w) (hg : B ≤ g) (cs : Array Value) : Below B w0 (w.setRow g cs) := ⟨hb.os, hb.tape, hb.output, by simpa using hb.size, fun i hi => (setRow_other w g i cs (by omega)).trans (hb.block i hi)⟩
theorem ret_tot {fn : Func} {p : Tmp} {R : Ending → World → Prop} {a : Act} {w : World} {g : Nat} {cs : Array Value} (h : fn.results = #[.cell p 23]) (hd : a.defers = [])
    (hp : a.tmps.getD p undef = .pointer (some ⟨g, 0, none⟩)) (hg : Blk w g 23 cs) (hs : cs.size = 17) (hR : R (.returned (.agg cs)) w) : bodyPost Try.prog fn R .ret a w :=
  bodyPost_ret (results_cell_row h a.tmps w g _ cs (0, 0) _ hp hg Try.underlying23 rfl (size_tot.trans (congrArg some hs.symm))) hd hR
theorem below2 {w : World} {a b : Obj} : Below w.heap.size w ((w.alloc a).alloc b) := ((Below.refl _ _).alloc (Nat.le_refl _) _).alloc (by simp) _
theorem later2 {w w1 : World} {o : Obj} {cs : Array Value} (hb : Below ((w.alloc o).alloc (.cells cs 23)).heap.size ((w.alloc o).alloc (.cells cs 23)) w1) : Blk w1 (w.heap.size + 1) 23 cs ∧ Below w.heap.size w w1 :=
  ⟨Blk.below (heap_alloc2_new w o (.cells cs 23) : Blk ((w.alloc o).alloc (.cells cs 23)) (w.heap.size + 1) 23 cs) hb (by simp), below2.trans (hb.mono (by simp; omega))⟩

set_option maxHeartbeats 1000000 in
theorem later_9 (f : Nat → Int) (n : Int) (w : World) : Calls Try.prog 23 #[tot f, .int .i64 9, .int .i64 n] w (RetT (tot (upd f 9 n)) w) := by
  have l := load_tot (heap_alloc2_old w (.cells #[.int .i64 (f 0), .int .i64 (f 1), .int .i64 (f 2), .int .i64 (f 3), .int .i64 (f 4), .int .i64 (f 5), .int .i64 (f 6), .int .i64 (f 7), .int .i64 (f 8), .int .i64 n, .int .i64 (f 10), .int .i64 (f 11), .int .i64 (f 12), .int .i64 (f 13), .int .i64 (f 14), .int .i64 (f 15), .int .i64 (f 16)] 23) (.cells #[.int .i64 0, .int .i64 0, .int .i64 0, .int .i64 0, .int .i64 0, .int .i64 0, .int .i64 0, .int .i64 0, .int .i64 0, .int .i64 0, .int .i64 0, .int .i64 0, .int .i64 0, .int .i64 0, .int .i64 0, .int .i64 0, .int .i64 0] 23)) rfl
  have st := store_tot (cs := #[.int .i64 (f 0), .int .i64 (f 1), .int .i64 (f 2), .int .i64 (f 3), .int .i64 (f 4), .int .i64 (f 5), .int .i64 (f 6), .int .i64 (f 7), .int .i64 (f 8), .int .i64 n, .int .i64 (f 10), .int .i64 (f 11), .int .i64 (f 12), .int .i64 (f 13), .int .i64 (f 14), .int .i64 (f 15), .int .i64 (f 16)]) (heap_alloc2_new w (.cells #[.int .i64 (f 0), .int .i64 (f 1), .int .i64 (f 2), .int .i64 (f 3), .int .i64 (f 4), .int .i64 (f 5), .int .i64 (f 6), .int .i64 (f 7), .int .i64 (f 8), .int .i64 n, .int .i64 (f 10), .int .i64 (f 11), .int .i64 (f 12), .int .i64 (f 13), .int .i64 (f 14), .int .i64 (f 15), .int .i64 (f 16)] 23) (.cells #[.int .i64 0, .int .i64 0, .int .i64 0, .int .i64 0, .int .i64 0, .int .i64 0, .int .i64 0, .int .i64 0, .int .i64 0, .int .i64 0, .int .i64 0, .int .i64 0, .int .i64 0, .int .i64 0, .int .i64 0, .int .i64 0, .int .i64 0] 23)) rfl rfl rfl
  go_enter Try.func23, Try.ntmps23
  go_wp2
  exact ret_tot Try.results23 rfl rfl (Blk_setRow (heap_alloc2_new _ _ _) _) rfl ⟨rfl, bel_setRow below2 (by omega) _⟩
set_option maxHeartbeats 1000000 in
theorem later_10 (f : Nat → Int) (n : Int) (w : World) : Calls Try.prog 23 #[tot f, .int .i64 10, .int .i64 n] w (RetT (tot (upd f 10 n)) w) := by
  have l := load_tot (heap_alloc2_old w (.cells #[.int .i64 (f 0), .int .i64 (f 1), .int .i64 (f 2), .int .i64 (f 3), .int .i64 (f 4), .int .i64 (f 5), .int .i64 (f 6), .int .i64 (f 7), .int .i64 (f 8), .int .i64 (f 9), .int .i64 n, .int .i64 (f 11), .int .i64 (f 12), .int .i64 (f 13), .int .i64 (f 14), .int .i64 (f 15), .int .i64 (f 16)] 23) (.cells #[.int .i64 0, .int .i64 0, .int .i64 0, .int .i64 0, .int .i64 0, .int .i64 0, .int .i64 0, .int .i64 0, .int .i64 0, .int .i64 0, .int .i64 0, .int .i64 0, .int .i64 0, .int .i64 0, .int .i64 0, .int .i64 0, .int .i64 0] 23)) rfl
  have st := store_tot (cs := #[.int .i64 (f 0), .int .i64 (f 1), .int .i64 (f 2), .int .i64 (f 3), .int .i64 (f 4), .int .i64 (f 5), .int .i64 (f 6), .int .i64 (f 7), .int .i64 (f 8), .int .i64 (f 9), .int .i64 n, .int .i64 (f 11), .int .i64 (f 12), .int .i64 (f 13), .int .i64 (f 14), .int .i64 (f 15), .int .i64 (f 16)]) (heap_alloc2_new w (.cells #[.int .i64 (f 0), .int .i64 (f 1), .int .i64 (f 2), .int .i64 (f 3), .int .i64 (f 4), .int .i64 (f 5), .int .i64 (f 6), .int .i64 (f 7), .int .i64 (f 8), .int .i64 (f 9), .int .i64 n, .int .i64 (f 11), .int .i64 (f 12), .int .i64 (f 13), .int .i64 (f 14), .int .i64 (f 15), .int .i64 (f 16)] 23) (.cells #[.int .i64 0, .int .i64 0, .int .i64 0, .int .i64 0, .int .i64 0, .int .i64 0, .int .i64 0, .int .i64 0, .int .i64 0, .int .i64 0, .int .i64 0, .int .i64 0, .int .i64 0, .int .i64 0, .int .i64 0, .int .i64 0, .int .i64 0] 23)) rfl rfl rfl
  go_enter Try.func23, Try.ntmps23
  go_wp2
  exact ret_tot Try.results23 rfl rfl (Blk_setRow (heap_alloc2_new _ _ _) _) rfl ⟨rfl, bel_setRow below2 (by omega) _⟩
set_option maxHeartbeats 1000000 in
theorem later_11 (f : Nat → Int) (n : Int) (w : World) : Calls Try.prog 23 #[tot f, .int .i64 11, .int .i64 n] w (RetT (tot (upd f 11 n)) w) := by
  have l := load_tot (heap_alloc2_old w (.cells #[.int .i64 (f 0), .int .i64 (f 1), .int .i64 (f 2), .int .i64 (f 3), .int .i64 (f 4), .int .i64 (f 5), .int .i64 (f 6), .int .i64 (f 7), .int .i64 (f 8), .int .i64 (f 9), .int .i64 (f 10), .int .i64 n, .int .i64 (f 12), .int .i64 (f 13), .int .i64 (f 14), .int .i64 (f 15), .int .i64 (f 16)] 23) (.cells #[.int .i64 0, .int .i64 0, .int .i64 0, .int .i64 0, .int .i64 0, .int .i64 0, .int .i64 0, .int .i64 0, .int .i64 0, .int .i64 0, .int .i64 0, .int .i64 0, .int .i64 0, .int .i64 0, .int .i64 0, .int .i64 0, .int .i64 0] 23)) rfl
  have st := store_tot (cs := #[.int .i64 (f 0), .int .i64 (f 1), .int .i64 (f 2), .int .i64 (f 3), .int .i64 (f 4), .int .i64 (f 5), .int .i64 (f 6), .int .i64 (f 7), .int .i64 (f 8), .int .i64 (f 9), .int .i64 (f 10), .int .i64 n, .int .i64 (f 12), .int .i64 (f 13), .int .i64 (f 14), .int .i64 (f 15), .int .i64 (f 16)]) (heap_alloc2_new w (.cells #[.int .i64 (f 0), .int .i64 (f 1), .int .i64 (f 2), .int .i64 (f 3), .int .i64 (f 4), .int .i64 (f 5), .int .i64 (f 6), .int .i64 (f 7), .int .i64 (f 8), .int .i64 (f 9), .int .i64 (f 10), .int .i64 n, .int .i64 (f 12), .int .i64 (f 13), .int .i64 (f 14), .int .i64 (f 15), .int .i64 (f 16)] 23) (.cells #[.int .i64 0, .int .i64 0, .int .i64 0, .int .i64 0, .int .i64 0, .int .i64 0, .int .i64 0, .int .i64 0, .int .i64 0, .int .i64 0, .int .i64 0, .int .i64 0, .int .i64 0, .int .i64 0, .int .i64 0, .int .i64 0, .int .i64 0] 23)) rfl rfl rfl
  go_enter Try.func23, Try.ntmps23
  go_wp2
  exact ret_tot Try.results23 rfl rfl (Blk_setRow (heap_alloc2_new _ _ _) _) rfl ⟨rfl, bel_setRow below2 (by omega) _⟩
set_option maxHeartbeats 1000000 in
theorem later_12 (f : Nat → Int) (n : Int) (w : World) : Calls Try.prog 23 #[tot f, .int .i64 12, .int .i64 n] w (RetT (tot (upd f 12 n)) w) := by
  have l := load_tot (heap_alloc2_old w (.cells #[.int .i64 (f 0), .int .i64 (f 1), .int .i64 (f 2), .int .i64 (f 3), .int .i64 (f 4), .int .i64 (f 5), .int .i64 (f 6), .int .i64 (f 7), .int .i64 (f 8), .int .i64 (f 9), .int .i64 (f 10), .int .i64 (f 11), .int .i64 n, .int .i64 (f 13), .int .i64 (f 14), .int .i64 (f 15), .int .i64 (f 16)] 23) (.cells #[.int .i64 0, .int .i64 0, .int .i64 0, .int .i64 0, .int .i64 0, .int .i64 0, .int .i64 0, .int .i64 0, .int .i64 0, .int .i64 0, .int .i64 0, .int .i64 0, .int .i64 0, .int .i64 0, .int .i64 0, .int .i64 0, .int .i64 0] 23)) rfl
  have st := store_tot (cs := #[.int .i64 (f 0), .int .i64 (f 1), .int .i64 (f 2), .int .i64 (f 3), .int .i64 (f 4), .int .i64 (f 5), .int .i64 (f 6), .int .i64 (f 7), .int .i64 (f 8), .int .i64 (f 9), .int .i64 (f 10), .int .i64 (f 11), .int .i64 n, .int .i64 (f 13), .int .i64 (f 14), .int .i64 (f 15), .int .i64 (f 16)]) (heap_alloc2_new w (.cells #[.int .i64 (f 0), .int .i64 (f 1), .int .i64 (f 2), .int .i64 (f 3), .int .i64 (f 4), .int .i64 (f 5), .int .i64 (f 6), .int .i64 (f 7), .int .i64 (f 8), .int .i64 (f 9), .int .i64 (f 10), .int .i64 (f 11), .int .i64 n, .int .i64 (f 13), .int .i64 (f 14), .int .i64 (f 15), .int .i64 (f 16)] 23) (.cells #[.int .i64 0, .int .i64 0, .int .i64 0, .int .i64 0, .int .i64 0, .int .i64 0, .int .i64 0, .int .i64 0, .int .i64 0, .int .i64 0, .int .i64 0, .int .i64 0, .int .i64 0, .int .i64 0, .int .i64 0, .int .i64 0, .int .i64 0] 23)) rfl rfl rfl
  go_enter Try.func23, Try.ntmps23
  go_wp2
  exact ret_tot Try.results23 rfl rfl (Blk_setRow (heap_alloc2_new _ _ _) _) rfl ⟨rfl, bel_setRow below2 (by omega) _⟩
set_option maxHeartbeats 1000000 in
theorem later_13 (f : Nat → Int) (n : Int) (w : World) : Calls Try.prog 23 #[tot f, .int .i64 13, .int .i64 n] w (RetT (tot (upd f 13 n)) w) := by
  have l := load_tot (heap_alloc2_old w (.cells #[.int .i64 (f 0), .int .i64 (f 1), .int .i64 (f 2), .int .i64 (f 3), .int .i64 (f 4), .int .i64 (f 5), .int .i64 (f 6), .int .i64 (f 7), .int .i64 (f 8), .int .i64 (f 9), .int .i64 (f 10), .int .i64 (f 11), .int .i64 (f 12), .int .i64 n, .int .i64 (f 14), .int .i64 (f 15), .int .i64 (f 16)] 23) (.cells #[.int .i64 0, .int .i64 0, .int .i64 0, .int .i64 0, .int .i64 0, .int .i64 0, .int .i64 0, .int .i64 0, .int .i64 0, .int .i64 0, .int .i64 0, .int .i64 0, .int .i64 0, .int .i64 0, .int .i64 0, .int .i64 0, .int .i64 0] 23)) rfl
  have st := store_tot (cs := #[.int .i64 (f 0), .int .i64 (f 1), .int .i64 (f 2), .int .i64 (f 3), .int .i64 (f 4), .int .i64 (f 5), .int .i64 (f 6), .int .i64 (f 7), .int .i64 (f 8), .int .i64 (f 9), .int .i64 (f 10), .int .i64 (f 11), .int .i64 (f 12), .int .i64 n, .int .i64 (f 14), .int .i64 (f 15), .int .i64 (f 16)]) (heap_alloc2_new w (.cells #[.int .i64 (f 0), .int .i64 (f 1), .int .i64 (f 2), .int .i64 (f 3), .int .i64 (f 4), .int .i64 (f 5), .int .i64 (f 6), .int .i64 (f 7), .int .i64 (f 8), .int .i64 (f 9), .int .i64 (f 10), .int .i64 (f 11), .int .i64 (f 12), .int .i64 n, .int .i64 (f 14), .int .i64 (f 15), .int .i64 (f 16)] 23) (.cells #[.int .i64 0, .int .i64 0, .int .i64 0, .int .i64 0, .int .i64 0, .int .i64 0, .int .i64 0, .int .i64 0, .int .i64 0, .int .i64 0, .int .i64 0, .int .i64 0, .int .i64 0, .int .i64 0, .int .i64 0, .int .i64 0, .int .i64 0] 23)) rfl rfl rfl
  go_enter Try.func23, Try.ntmps23
  go_wp2
  exact ret_tot Try.results23 rfl rfl (Blk_setRow (heap_alloc2_new _ _ _) _) rfl ⟨rfl, bel_setRow below2 (by omega) _⟩
set_option maxHeartbeats 1000000 in
theorem later_14 (f : Nat → Int) (n : Int) (w : World) : Calls Try.prog 23 #[tot f, .int .i64 14, .int .i64 n] w (RetT (tot (upd f 14 n)) w) := by
  have l := load_tot (heap_alloc2_old w (.cells #[.int .i64 (f 0), .int .i64 (f 1), .int .i64 (f 2), .int .i64 (f 3), .int .i64 (f 4), .int .i64 (f 5), .int .i64 (f 6), .int .i64 (f 7), .int .i64 (f 8), .int .i64 (f 9), .int .i64 (f 10), .int .i64 (f 11), .int .i64 (f 12), .int .i64 (f 13), .int .i64 n, .int .i64 (f 15), .int .i64 (f 16)] 23) (.cells #[.int .i64 0, .int .i64 0, .int .i64 0, .int .i64 0, .int .i64 0, .int .i64 0, .int .i64 0, .int .i64 0, .int .i64 0, .int .i64 0, .int .i64 0, .int .i64 0, .int .i64 0, .int .i64 0, .int .i64 0, .int .i64 0, .int .i64 0] 23)) rfl
  have st := store_tot (cs := #[.int .i64 (f 0), .int .i64 (f 1), .int .i64 (f 2), .int .i64 (f 3), .int .i64 (f 4), .int .i64 (f 5), .int .i64 (f 6), .int .i64 (f 7), .int .i64 (f 8), .int .i64 (f 9), .int .i64 (f 10), .int .i64 (f 11), .int .i64 (f 12), .int .i64 (f 13), .int .i64 n, .int .i64 (f 15), .int .i64 (f 16)]) (heap_alloc2_new w (.cells #[.int .i64 (f 0), .int .i64 (f 1), .int .i64 (f 2), .int .i64 (f 3), .int .i64 (f 4), .int .i64 (f 5), .int .i64 (f 6), .int .i64 (f 7), .int .i64 (f 8), .int .i64 (f 9), .int .i64 (f 10), .int .i64 (f 11), .int .i64 (f 12), .int .i64 (f 13), .int .i64 n, .int .i64 (f 15), .int .i64 (f 16)] 23) (.cells #[.int .i64 0, .int .i64 0, .int .i64 0, .int .i64 0, .int .i64 0, .int .i64 0, .int .i64 0, .int .i64 0, .int .i64 0, .int .i64 0, .int .i64 0, .int .i64 0, .int .i64 0, .int .i64 0, .int .i64 0, .int .i64 0, .int .i64 0] 23)) rfl rfl rfl
  go_enter Try.func23, Try.ntmps23
  go_wp2
  exact ret_tot Try.results23 rfl rfl (Blk_setRow (heap_alloc2_new _ _ _) _) rfl ⟨rfl, bel_setRow below2 (by omega) _⟩
set_option maxHeartbeats 1000000 in
theorem later_15 (f : Nat → Int) (n : Int) (w : World) : Calls Try.prog 23 #[tot f, .int .i64 15, .int .i64 n] w (RetT (tot (upd f 15 n)) w) := by
  have l := load_tot (heap_alloc2_old w (.cells #[.int .i64 (f 0), .int .i64 (f 1), .int .i64 (f 2), .int .i64 (f 3), .int .i64 (f 4), .int .i64 (f 5), .int .i64 (f 6), .int .i64 (f 7), .int .i64 (f 8), .int .i64 (f 9), .int .i64 (f 10), .int .i64 (f 11), .int .i64 (f 12), .int .i64 (f 13), .int .i64 (f 14), .int .i64 n, .int .i64 (f 16)] 23) (.cells #[.int .i64 0, .int .i64 0, .int .i64 0, .int .i64 0, .int .i64 0, .int .i64 0, .int .i64 0, .int .i64 0, .int .i64 0, .int .i64 0, .int .i64 0, .int .i64 0, .int .i64 0, .int .i64 0, .int .i64 0, .int .i64 0, .int .i64 0] 23)) rfl
  have st := store_tot (cs := #[.int .i64 (f 0), .int .i64 (f 1), .int .i64 (f 2), .int .i64 (f 3), .int .i64 (f 4), .int .i64 (f 5), .int .i64 (f 6), .int .i64 (f 7), .int .i64 (f 8), .int .i64 (f 9), .int .i64 (f 10), .int .i64 (f 11), .int .i64 (f 12), .int .i64 (f 13), .int .i64 (f 14), .int .i64 n, .int .i64 (f 16)]) (heap_alloc2_new w (.cells #[.int .i64 (f 0), .int .i64 (f 1), .int .i64 (f 2), .int .i64 (f 3), .int .i64 (f 4), .int .i64 (f 5), .int .i64 (f 6), .int .i64 (f 7), .int .i64 (f 8), .int .i64 (f 9), .int .i64 (f 10), .int .i64 (f 11), .int .i64 (f 12), .int .i64 (f 13), .int .i64 (f 14), .int .i64 n, .int .i64 (f 16)] 23) (.cells #[.int .i64 0, .int .i64 0, .int .i64 0, .int .i64 0, .int .i64 0, .int .i64 0, .int .i64 0, .int .i64 0, .int .i64 0, .int .i64 0, .int .i64 0, .int .i64 0, .int .i64 0, .int .i64 0, .int .i64 0, .int .i64 0, .int .i64 0] 23)) rfl rfl rfl
  go_enter Try.func23, Try.ntmps23
  go_wp2
  exact ret_tot Try.results23 rfl rfl (Blk_setRow (heap_alloc2_new _ _ _) _) rfl ⟨rfl, bel_setRow below2 (by omega) _⟩
set_option maxHeartbeats 1000000 in
theorem later_16 (f : Nat → Int) (n : Int) (w : World) : Calls Try.prog 23 #[tot f, .int .i64 16, .int .i64 n] w (RetT (tot (upd f 16 n)) w) := by
  have l := load_tot (heap_alloc2_old w (.cells #[.int .i64 (f 0), .int .i64 (f 1), .int .i64 (f 2), .int .i64 (f 3), .int .i64 (f 4), .int .i64 (f 5), .int .i64 (f 6), .int .i64 (f 7), .int .i64 (f 8), .int .i64 (f 9), .int .i64 (f 10), .int .i64 (f 11), .int .i64 (f 12), .int .i64 (f 13), .int .i64 (f 14), .int .i64 (f 15), .int .i64 n] 23) (.cells #[.int .i64 0, .int .i64 0, .int .i64 0, .int .i64 0, .int .i64 0, .int .i64 0, .int .i64 0, .int .i64 0, .int .i64 0, .int .i64 0, .int .i64 0, .int .i64 0, .int .i64 0, .int .i64 0, .int .i64 0, .int .i64 0, .int .i64 0] 23)) rfl
  have st := store_tot (cs := #[.int .i64 (f 0), .int .i64 (f 1), .int .i64 (f 2), .int .i64 (f 3), .int .i64 (f 4), .int .i64 (f 5), .int .i64 (f 6), .int .i64 (f 7), .int .i64 (f 8), .int .i64 (f 9), .int .i64 (f 10), .int .i64 (f 11), .int .i64 (f 12), .int .i64 (f 13), .int .i64 (f 14), .int .i64 (f 15), .int .i64 n]) (heap_alloc2_new w (.cells #[.int .i64 (f 0), .int .i64 (f 1), .int .i64 (f 2), .int .i64 (f 3), .int .i64 (f 4), .int .i64 (f 5), .int .i64 (f 6), .int .i64 (f 7), .int .i64 (f 8), .int .i64 (f 9), .int .i64 (f 10), .int .i64 (f 11), .int .i64 (f 12), .int .i64 (f 13), .int .i64 (f 14), .int .i64 (f 15), .int .i64 n] 23) (.cells #[.int .i64 0, .int .i64 0, .int .i64 0, .int .i64 0, .int .i64 0, .int .i64 0, .int .i64 0, .int .i64 0, .int .i64 0, .int .i64 0, .int .i64 0, .int .i64 0, .int .i64 0, .int .i64 0, .int .i64 0, .int .i64 0, .int .i64 0] 23)) rfl rfl rfl
  go_enter Try.func23, Try.ntmps23
  go_wp2
  exact ret_tot Try.results23 rfl rfl (Blk_setRow (heap_alloc2_new _ _ _) _) rfl ⟨rfl, bel_setRow below2 (by omega) _⟩
set_option maxHeartbeats 1000000 in
theorem later_no (f : Nat → Int) (i n : Int) (w : World) (hi : i < 9) : Calls Try.prog 23 #[tot f, .int .i64 i, .int .i64 n] w (RetT (tot f) w) := by
  have h9 : (i == 9) = false := beq_false_of_ne (by omega)
  have h10 : (i == 10) = false := beq_false_of_ne (by omega)
  have h11 : (i == 11) = false := beq_false_of_ne (by omega)
  have h12 : (i == 12) = false := beq_false_of_ne (by omega)
  have h13 : (i == 13) = false := beq_false_of_ne (by omega)
  have h14 : (i == 14) = false := beq_false_of_ne (by omega)
  have h15 : (i == 15) = false := beq_false_of_ne (by omega)
  have h16 : (i == 16) = false := beq_false_of_ne (by omega)
  have l := load_tot (heap_alloc2_old w (.cells #[.int .i64 (f 0), .int .i64 (f 1), .int .i64 (f 2), .int .i64 (f 3), .int .i64 (f 4), .int .i64 (f 5), .int .i64 (f 6), .int .i64 (f 7), .int .i64 (f 8), .int .i64 (f 9), .int .i64 (f 10), .int .i64 (f 11), .int .i64 (f 12), .int .i64 (f 13), .int .i64 (f 14), .int .i64 (f 15), .int .i64 (f 16)] 23) (.cells #[.int .i64 0, .int .i64 0, .int .i64 0, .int .i64 0, .int .i64 0, .int .i64 0, .int .i64 0, .int .i64 0, .int .i64 0, .int .i64 0, .int .i64 0, .int .i64 0, .int .i64 0, .int .i64 0, .int .i64 0, .int .i64 0, .int .i64 0] 23)) rfl
  have st := store_tot (cs := #[.int .i64 (f 0), .int .i64 (f 1), .int .i64 (f 2), .int .i64 (f 3), .int .i64 (f 4), .int .i64 (f 5), .int .i64 (f 6), .int .i64 (f 7), .int .i64 (f 8), .int .i64 (f 9), .int .i64 (f 10), .int .i64 (f 11), .int .i64 (f 12), .int .i64 (f 13), .int .i64 (f 14), .int .i64 (f 15), .int .i64 (f 16)]) (heap_alloc2_new w (.cells #[.int .i64 (f 0), .int .i64 (f 1), .int .i64 (f 2), .int .i64 (f 3), .int .i64 (f 4), .int .i64 (f 5), .int .i64 (f 6), .int .i64 (f 7), .int .i64 (f 8), .int .i64 (f 9), .int .i64 (f 10), .int .i64 (f 11), .int .i64 (f 12), .int .i64 (f 13), .int .i64 (f 14), .int .i64 (f 15), .int .i64 (f 16)] 23) (.cells #[.int .i64 0, .int .i64 0, .int .i64 0, .int .i64 0, .int .i64 0, .int .i64 0, .int .i64 0, .int .i64 0, .int .i64 0, .int .i64 0, .int .i64 0, .int .i64 0, .int .i64 0, .int .i64 0, .int .i64 0, .int .i64 0, .int .i64 0] 23)) rfl rfl rfl
  go_enter Try.func23, Try.ntmps23
  go_wp2
  exact ret_tot Try.results23 rfl rfl (Blk_setRow (heap_alloc2_new _ _ _) _) rfl ⟨rfl, bel_setRow below2 (by omega) _⟩
theorem later_any (f : Nat → Int) (k : Nat) (n : Int) (w : World) (h9 : 9 ≤ k) (hk : k < 17) : Calls Try.prog 23 #[tot f, .int .i64 (k : Int), .int .i64 n] w (RetT (tot (upd f k n)) w) := by
  match k, h9, hk with
  | 9, _, _ => exact later_9 f n w
  | 10, _, _ => exact later_10 f n w
  | 11, _, _ => exact later_11 f n w
  | 12, _, _ => exact later_12 f n w
  | 13, _, _ => exact later_13 f n w
  | 14, _, _ => exact later_14 f n w
  | 15, _, _ => exact later_15 f n w
  | 16, _, _ => exact later_16 f n w
  | k + 17, _, h => exact absurd h (by omega)

set_option maxHeartbeats 1000000 in
theorem set_0 (f : Nat → Int) (n : Int) (w : World) : Calls Try.prog 18 #[tot f, .int .i64 0, .int .i64 n] w (RetT (tot (upd f 0 n)) w) := by
  have l := load_tot (heap_alloc2_old w (.cells #[.int .i64 n, .int .i64 (f 1), .int .i64 (f 2), .int .i64 (f 3), .int .i64 (f 4), .int .i64 (f 5), .int .i64 (f 6), .int .i64 (f 7), .int .i64 (f 8), .int .i64 (f 9), .int .i64 (f 10), .int .i64 (f 11), .int .i64 (f 12), .int .i64 (f 13), .int .i64 (f 14), .int .i64 (f 15), .int .i64 (f 16)] 23) (.cells #[.int .i64 0, .int .i64 0, .int .i64 0, .int .i64 0, .int .i64 0, .int .i64 0, .int .i64 0, .int .i64 0, .int .i64 0, .int .i64 0, .int .i64 0, .int .i64 0, .int .i64 0, .int .i64 0, .int .i64 0, .int .i64 0, .int .i64 0] 23)) rfl
  go_enter Try.func18, Try.ntmps18
  go_wp2_with fail
  refine (later_no (upd f 0 n) 0 n _ (by omega)).mono ?_
  clear l
  rintro e w1 ⟨rfl, b1⟩
  obtain ⟨q, qb⟩ := later2 b1
  have st := store_tot (cs := #[.int .i64 (upd f 0 n 0), .int .i64 (upd f 0 n 1), .int .i64 (upd f 0 n 2), .int .i64 (upd f 0 n 3), .int .i64 (upd f 0 n 4), .int .i64 (upd f 0 n 5), .int .i64 (upd f 0 n 6), .int .i64 (upd f 0 n 7), .int .i64 (upd f 0 n 8), .int .i64 (upd f 0 n 9), .int .i64 (upd f 0 n 10), .int .i64 (upd f 0 n 11), .int .i64 (upd f 0 n 12), .int .i64 (upd f 0 n 13), .int .i64 (upd f 0 n 14), .int .i64 (upd f 0 n 15), .int .i64 (upd f 0 n 16)]) q rfl rfl rfl
  have Q := Lib.hid q
  have QB := Lib.hid qb
  clear b1 q qb
  go_wp2_with fail
  exact ret_tot (cs := #[.int .i64 (upd f 0 n 0), .int .i64 (upd f 0 n 1), .int .i64 (upd f 0 n 2), .int .i64 (upd f 0 n 3), .int .i64 (upd f 0 n 4), .int .i64 (upd f 0 n 5), .int .i64 (upd f 0 n 6), .int .i64 (upd f 0 n 7), .int .i64 (upd f 0 n 8), .int .i64 (upd f 0 n 9), .int .i64 (upd f 0 n 10), .int .i64 (upd f 0 n 11), .int .i64 (upd f 0 n 12), .int .i64 (upd f 0 n 13), .int .i64 (upd f 0 n 14), .int .i64 (upd f 0 n 15), .int .i64 (upd f 0 n 16)]) Try.results18 rfl rfl (Blk_setRow Q.out _) rfl ⟨rfl, bel_setRow QB.out (by omega) _⟩
set_option maxHeartbeats 1000000 in
theorem set_1 (f : Nat → Int) (n : Int) (w : World) : Calls Try.prog 18 #[tot f, .int .i64 1, .int .i64 n] w (RetT (tot (upd f 1 n)) w) := by
  have l := load_tot (heap_alloc2_old w (.cells #[.int .i64 (f 0), .int .i64 n, .int .i64 (f 2), .int .i64 (f 3), .int .i64 (f 4), .int .i64 (f 5), .int .i64 (f 6), .int .i64 (f 7), .int .i64 (f 8), .int .i64 (f 9), .int .i64 (f 10), .int .i64 (f 11), .int .i64 (f 12), .int .i64 (f 13), .int .i64 (f 14), .int .i64 (f 15), .int .i64 (f 16)] 23) (.cells #[.int .i64 0, .int .i64 0, .int .i64 0, .int .i64 0, .int .i64 0, .int .i64 0, .int .i64 0, .int .i64 0, .int .i64 0, .int .i64 0, .int .i64 0, .int .i64 0, .int .i64 0, .int .i64 0, .int .i64 0, .int .i64 0, .int .i64 0] 23)) rfl
  go_enter Try.func18, Try.ntmps18
  go_wp2_with fail
  refine (later_no (upd f 1 n) 1 n _ (by omega)).mono ?_
  clear l
  rintro e w1 ⟨rfl, b1⟩
  obtain ⟨q, qb⟩ := later2 b1
  have st := store_tot (cs := #[.int .i64 (upd f 1 n 0), .int .i64 (upd f 1 n 1), .int .i64 (upd f 1 n 2), .int .i64 (upd f 1 n 3), .int .i64 (upd f 1 n 4), .int .i64 (upd f 1 n 5), .int .i64 (upd f 1 n 6), .int .i64 (upd f 1 n 7), .int .i64 (upd f 1 n 8), .int .i64 (upd f 1 n 9), .int .i64 (upd f 1 n 10), .int .i64 (upd f 1 n 11), .int .i64 (upd f 1 n 12), .int .i64 (upd f 1 n 13), .int .i64 (upd f 1 n 14), .int .i64 (upd f 1 n 15), .int .i64 (upd f 1 n 16)]) q rfl rfl rfl
  have Q := Lib.hid q
  have QB := Lib.hid qb
  clear b1 q qb
  go_wp2_with fail
  exact ret_tot (cs := #[.int .i64 (upd f 1 n 0), .int .i64 (upd f 1 n 1), .int .i64 (upd f 1 n 2), .int .i64 (upd f 1 n 3), .int .i64 (upd f 1 n 4), .int .i64 (upd f 1 n 5), .int .i64 (upd f 1 n 6), .int .i64 (upd f 1 n 7), .int .i64 (upd f 1 n 8), .int .i64 (upd f 1 n 9), .int .i64 (upd f 1 n 10), .int .i64 (upd f 1 n 11), .int .i64 (upd f 1 n 12), .int .i64 (upd f 1 n 13), .int .i64 (upd f 1 n 14), .int .i64 (upd f 1 n 15), .int .i64 (upd f 1 n 16)]) Try.results18 rfl rfl (Blk_setRow Q.out _) rfl ⟨rfl, bel_setRow QB.out (by omega) _⟩
set_option maxHeartbeats 1000000 in
theorem set_2 (f : Nat → Int) (n : Int) (w : World) : Calls Try.prog 18 #[tot f, .int .i64 2, .int .i64 n] w (RetT (tot (upd f 2 n)) w) := by
  have l := load_tot (heap_alloc2_old w (.cells #[.int .i64 (f 0), .int .i64 (f 1), .int .i64 n, .int .i64 (f 3), .int .i64 (f 4), .int .i64 (f 5), .int .i64 (f 6), .int .i64 (f 7), .int .i64 (f 8), .int .i64 (f 9), .int .i64 (f 10), .int .i64 (f 11), .int .i64 (f 12), .int .i64 (f 13), .int .i64 (f 14), .int .i64 (f 15), .int .i64 (f 16)] 23) (.cells #[.int .i64 0, .int .i64 0, .int .i64 0, .int .i64 0, .int .i64 0, .int .i64 0, .int .i64 0, .int .i64 0, .int .i64 0, .int .i64 0, .int .i64 0, .int .i64 0, .int .i64 0, .int .i64 0, .int .i64 0, .int .i64 0, .int .i64 0] 23)) rfl
  go_enter Try.func18, Try.ntmps18
  go_wp2_with fail
  refine (later_no (upd f 2 n) 2 n _ (by omega)).mono ?_
  clear l
  rintro e w1 ⟨rfl, b1⟩
  obtain ⟨q, qb⟩ := later2 b1
  have st := store_tot (cs := #[.int .i64 (upd f 2 n 0), .int .i64 (upd f 2 n 1), .int .i64 (upd f 2 n 2), .int .i64 (upd f 2 n 3), .int .i64 (upd f 2 n 4), .int .i64 (upd f 2 n 5), .int .i64 (upd f 2 n 6), .int .i64 (upd f 2 n 7), .int .i64 (upd f 2 n 8), .int .i64 (upd f 2 n 9), .int .i64 (upd f 2 n 10), .int .i64 (upd f 2 n 11), .int .i64 (upd f 2 n 12), .int .i64 (upd f 2 n 13), .int .i64 (upd f 2 n 14), .int .i64 (upd f 2 n 15), .int .i64 (upd f 2 n 16)]) q rfl rfl rfl
  have Q := Lib.hid q
  have QB := Lib.hid qb
  clear b1 q qb
  go_wp2_with fail
  exact ret_tot (cs := #[.int .i64 (upd f 2 n 0), .int .i64 (upd f 2 n 1), .int .i64 (upd f 2 n 2), .int .i64 (upd f 2 n 3), .int .i64 (upd f 2 n 4), .int .i64 (upd f 2 n 5), .int .i64 (upd f 2 n 6), .int .i64 (upd f 2 n 7), .int .i64 (upd f 2 n 8), .int .i64 (upd f 2 n 9), .int .i64 (upd f 2 n 10), .int .i64 (upd f 2 n 11), .int .i64 (upd f 2 n 12), .int .i64 (upd f 2 n 13), .int .i64 (upd f 2 n 14), .int .i64 (upd f 2 n 15), .int .i64 (upd f 2 n 16)]) Try.results18 rfl rfl (Blk_setRow Q.out _) rfl ⟨rfl, bel_setRow QB.out (by omega) _⟩
set_option maxHeartbeats 1000000 in
theorem set_3 (f : Nat → Int) (n : Int) (w : World) : Calls Try.prog 18 #[tot f, .int .i64 3, .int .i64 n] w (RetT (tot (upd f 3 n)) w) := by
  have l := load_tot (heap_alloc2_old w (.cells #[.int .i64 (f 0), .int .i64 (f 1), .int .i64 (f 2), .int .i64 n, .int .i64 (f 4), .int .i64 (f 5), .int .i64 (f 6), .int .i64 (f 7), .int .i64 (f 8), .int .i64 (f 9), .int .i64 (f 10), .int .i64 (f 11), .int .i64 (f 12), .int .i64 (f 13), .int .i64 (f 14), .int .i64 (f 15), .int .i64 (f 16)] 23) (.cells #[.int .i64 0, .int .i64 0, .int .i64 0, .int .i64 0, .int .i64 0, .int .i64 0, .int .i64 0, .int .i64 0, .int .i64 0, .int .i64 0, .int .i64 0, .int .i64 0, .int .i64 0, .int .i64 0, .int .i64 0, .int .i64 0, .int .i64 0] 23)) rfl
  go_enter Try.func18, Try.ntmps18
  go_wp2_with fail
  refine (later_no (upd f 3 n) 3 n _ (by omega)).mono ?_
  clear l
  rintro e w1 ⟨rfl, b1⟩
  obtain ⟨q, qb⟩ := later2 b1
  have st := store_tot (cs := #[.int .i64 (upd f 3 n 0), .int .i64 (upd f 3 n 1), .int .i64 (upd f 3 n 2), .int .i64 (upd f 3 n 3), .int .i64 (upd f 3 n 4), .int .i64 (upd f 3 n 5), .int .i64 (upd f 3 n 6), .int .i64 (upd f 3 n 7), .int .i64 (upd f 3 n 8), .int .i64 (upd f 3 n 9), .int .i64 (upd f 3 n 10), .int .i64 (upd f 3 n 11), .int .i64 (upd f 3 n 12), .int .i64 (upd f 3 n 13), .int .i64 (upd f 3 n 14), .int .i64 (upd f 3 n 15), .int .i64 (upd f 3 n 16)]) q rfl rfl rfl
  have Q := Lib.hid q
  have QB := Lib.hid qb
  clear b1 q qb
  go_wp2_with fail
  exact ret_tot (cs := #[.int .i64 (upd f 3 n 0), .int .i64 (upd f 3 n 1), .int .i64 (upd f 3 n 2), .int .i64 (upd f 3 n 3), .int .i64 (upd f 3 n 4), .int .i64 (upd f 3 n 5), .int .i64 (upd f 3 n 6), .int .i64 (upd f 3 n 7), .int .i64 (upd f 3 n 8), .int .i64 (upd f 3 n 9), .int .i64 (upd f 3 n 10), .int .i64 (upd f 3 n 11), .int .i64 (upd f 3 n 12), .int .i64 (upd f 3 n 13), .int .i64 (upd f 3 n 14), .int .i64 (upd f 3 n 15), .int .i64 (upd f 3 n 16)]) Try.results18 rfl rfl (Blk_setRow Q.out _) rfl ⟨rfl, bel_setRow QB.out (by omega) _⟩
set_option maxHeartbeats 1000000 in
theorem set_4 (f : Nat → Int) (n : Int) (w : World) : Calls Try.prog 18 #[tot f, .int .i64 4, .int .i64 n] w (RetT (tot (upd f 4 n)) w) := by
  have l := load_tot (heap_alloc2_old w (.cells #[.int .i64 (f 0), .int .i64 (f 1), .int .i64 (f 2), .int .i64 (f 3), .int .i64 n, .int .i64 (f 5), .int .i64 (f 6), .int .i64 (f 7), .int .i64 (f 8), .int .i64 (f 9), .int .i64 (f 10), .int .i64 (f 11), .int .i64 (f 12), .int .i64 (f 13), .int .i64 (f 14), .int .i64 (f 15), .int .i64 (f 16)] 23) (.cells #[.int .i64 0, .int .i64 0, .int .i64 0, .int .i64 0, .int .i64 0, .int .i64 0, .int .i64 0, .int .i64 0, .int .i64 0, .int .i64 0, .int .i64 0, .int .i64 0, .int .i64 0, .int .i64 0, .int .i64 0, .int .i64 0, .int .i64 0] 23)) rfl
  go_enter Try.func18, Try.ntmps18
  go_wp2_with fail
  refine (later_no (upd f 4 n) 4 n _ (by omega)).mono ?_
  clear l
  rintro e w1 ⟨rfl, b1⟩
  obtain ⟨q, qb⟩ := later2 b1
  have st := store_tot (cs := #[.int .i64 (upd f 4 n 0), .int .i64 (upd f 4 n 1), .int .i64 (upd f 4 n 2), .int .i64 (upd f 4 n 3), .int .i64 (upd f 4 n 4), .int .i64 (upd f 4 n 5), .int .i64 (upd f 4 n 6), .int .i64 (upd f 4 n 7), .int .i64 (upd f 4 n 8), .int .i64 (upd f 4 n 9), .int .i64 (upd f 4 n 10), .int .i64 (upd f 4 n 11), .int .i64 (upd f 4 n 12), .int .i64 (upd f 4 n 13), .int .i64 (upd f 4 n 14), .int .i64 (upd f 4 n 15), .int .i64 (upd f 4 n 16)]) q rfl rfl rfl
  have Q := Lib.hid q
  have QB := Lib.hid qb
  clear b1 q qb
  go_wp2_with fail
  exact ret_tot (cs := #[.int .i64 (upd f 4 n 0), .int .i64 (upd f 4 n 1), .int .i64 (upd f 4 n 2), .int .i64 (upd f 4 n 3), .int .i64 (upd f 4 n 4), .int .i64 (upd f 4 n 5), .int .i64 (upd f 4 n 6), .int .i64 (upd f 4 n 7), .int .i64 (upd f 4 n 8), .int .i64 (upd f 4 n 9), .int .i64 (upd f 4 n 10), .int .i64 (upd f 4 n 11), .int .i64 (upd f 4 n 12), .int .i64 (upd f 4 n 13), .int .i64 (upd f 4 n 14), .int .i64 (upd f 4 n 15), .int .i64 (upd f 4 n 16)]) Try.results18 rfl rfl (Blk_setRow Q.out _) rfl ⟨rfl, bel_setRow QB.out (by omega) _⟩
set_option maxHeartbeats 1000000 in
theorem set_5 (f : Nat → Int) (n : Int) (w : World) : Calls Try.prog 18 #[tot f, .int .i64 5, .int .i64 n] w (RetT (tot (upd f 5 n)) w) := by
  have l := load_tot (heap_alloc2_old w (.cells #[.int .i64 (f 0), .int .i64 (f 1), .int .i64 (f 2), .int .i64 (f 3), .int .i64 (f 4), .int .i64 n, .int .i64 (f 6), .int .i64 (f 7), .int .i64 (f 8), .int .i64 (f 9), .int .i64 (f 10), .int .i64 (f 11), .int .i64 (f 12), .int .i64 (f 13), .int .i64 (f 14), .int .i64 (f 15), .int .i64 (f 16)] 23) (.cells #[.int .i64 0, .int .i64 0, .int .i64 0, .int .i64 0, .int .i64 0, .int .i64 0, .int .i64 0, .int .i64 0, .int .i64 0, .int .i64 0, .int .i64 0, .int .i64 0, .int .i64 0, .int .i64 0, .int .i64 0, .int .i64 0, .int .i64 0] 23)) rfl
  go_enter Try.func18, Try.ntmps18
  go_wp2_with fail
  refine (later_no (upd f 5 n) 5 n _ (by omega)).mono ?_
  clear l
  rintro e w1 ⟨rfl, b1⟩
  obtain ⟨q, qb⟩ := later2 b1
  have st := store_tot (cs := #[.int .i64 (upd f 5 n 0), .int .i64 (upd f 5 n 1), .int .i64 (upd f 5 n 2), .int .i64 (upd f 5 n 3), .int .i64 (upd f 5 n 4), .int .i64 (upd f 5 n 5), .int .i64 (upd f 5 n 6), .int .i64 (upd f 5 n 7), .int .i64 (upd f 5 n 8), .int .i64 (upd f 5 n 9), .int .i64 (upd f 5 n 10), .int .i64 (upd f 5 n 11), .int .i64 (upd f 5 n 12), .int .i64 (upd f 5 n 13), .int .i64 (upd f 5 n 14), .int .i64 (upd f 5 n 15), .int .i64 (upd f 5 n 16)]) q rfl rfl rfl
  have Q := Lib.hid q
  have QB := Lib.hid qb
  clear b1 q qb
  go_wp2_with fail
  exact ret_tot (cs := #[.int .i64 (upd f 5 n 0), .int .i64 (upd f 5 n 1), .int .i64 (upd f 5 n 2), .int .i64 (upd f 5 n 3), .int .i64 (upd f 5 n 4), .int .i64 (upd f 5 n 5), .int .i64 (upd f 5 n 6), .int .i64 (upd f 5 n 7), .int .i64 (upd f 5 n 8), .int .i64 (upd f 5 n 9), .int .i64 (upd f 5 n 10), .int .i64 (upd f 5 n 11), .int .i64 (upd f 5 n 12), .int .i64 (upd f 5 n 13), .int .i64 (upd f 5 n 14), .int .i64 (upd f 5 n 15), .int .i64 (upd f 5 n 16)]) Try.results18 rfl rfl (Blk_setRow Q.out _) rfl ⟨rfl, bel_setRow QB.out (by omega) _⟩
set_option maxHeartbeats 1000000 in
theorem set_6 (f : Nat → Int) (n : Int) (w : World) : Calls Try.prog 18 #[tot f, .int .i64 6, .int .i64 n] w (RetT (tot (upd f 6 n)) w) := by
  have l := load_tot (heap_alloc2_old w (.cells #[.int .i64 (f 0), .int .i64 (f 1), .int .i64 (f 2), .int .i64 (f 3), .int .i64 (f 4), .int .i64 (f 5), .int .i64 n, .int .i64 (f 7), .int .i64 (f 8), .int .i64 (f 9), .int .i64 (f 10), .int .i64 (f 11), .int .i64 (f 12), .int .i64 (f 13), .int .i64 (f 14), .int .i64 (f 15), .int .i64 (f 16)] 23) (.cells #[.int .i64 0, .int .i64 0, .int .i64 0, .int .i64 0, .int .i64 0, .int .i64 0, .int .i64 0, .int .i64 0, .int .i64 0, .int .i64 0, .int .i64 0, .int .i64 0, .int .i64 0, .int .i64 0, .int .i64 0, .int .i64 0, .int .i64 0] 23)) rfl
  go_enter Try.func18, Try.ntmps18
  go_wp2_with fail
  refine (later_no (upd f 6 n) 6 n _ (by omega)).mono ?_
  clear l
  rintro e w1 ⟨rfl, b1⟩
  obtain ⟨q, qb⟩ := later2 b1
  have st := store_tot (cs := #[.int .i64 (upd f 6 n 0), .int .i64 (upd f 6 n 1), .int .i64 (upd f 6 n 2), .int .i64 (upd f 6 n 3), .int .i64 (upd f 6 n 4), .int .i64 (upd f 6 n 5), .int .i64 (upd f 6 n 6), .int .i64 (upd f 6 n 7), .int .i64 (upd f 6 n 8), .int .i64 (upd f 6 n 9), .int .i64 (upd f 6 n 10), .int .i64 (upd f 6 n 11), .int .i64 (upd f 6 n 12), .int .i64 (upd f 6 n 13), .int .i64 (upd f 6 n 14), .int .i64 (upd f 6 n 15), .int .i64 (upd f 6 n 16)]) q rfl rfl rfl
  have Q := Lib.hid q
  have QB := Lib.hid qb
  clear b1 q qb
  go_wp2_with fail
  exact ret_tot (cs := #[.int .i64 (upd f 6 n 0), .int .i64 (upd f 6 n 1), .int .i64 (upd f 6 n 2), .int .i64 (upd f 6 n 3), .int .i64 (upd f 6 n 4), .int .i64 (upd f 6 n 5), .int .i64 (upd f 6 n 6), .int .i64 (upd f 6 n 7), .int .i64 (upd f 6 n 8), .int .i64 (upd f 6 n 9), .int .i64 (upd f 6 n 10), .int .i64 (upd f 6 n 11), .int .i64 (upd f 6 n 12), .int .i64 (upd f 6 n 13), .int .i64 (upd f 6 n 14), .int .i64 (upd f 6 n 15), .int .i64 (upd f 6 n 16)]) Try.results18 rfl rfl (Blk_setRow Q.out _) rfl ⟨rfl, bel_setRow QB.out (by omega) _⟩
set_option maxHeartbeats 1000000 in
theorem set_7 (f : Nat → Int) (n : Int) (w : World) : Calls Try.prog 18 #[tot f, .int .i64 7, .int .i64 n] w (RetT (tot (upd f 7 n)) w) := by
  have l := load_tot (heap_alloc2_old w (.cells #[.int .i64 (f 0), .int .i64 (f 1), .int .i64 (f 2), .int .i64 (f 3), .int .i64 (f 4), .int .i64 (f 5), .int .i64 (f 6), .int .i64 n, .int .i64 (f 8), .int .i64 (f 9), .int .i64 (f 10), .int .i64 (f 11), .int .i64 (f 12), .int .i64 (f 13), .int .i64 (f 14), .int .i64 (f 15), .int .i64 (f 16)] 23) (.cells #[.int .i64 0, .int .i64 0, .int .i64 0, .int .i64 0, .int .i64 0, .int .i64 0, .int .i64 0, .int .i64 0, .int .i64 0, .int .i64 0, .int .i64 0, .int .i64 0, .int .i64 0, .int .i64 0, .int .i64 0, .int .i64 0, .int .i64 0] 23)) rfl
  go_enter Try.func18, Try.ntmps18
  go_wp2_with fail
  refine (later_no (upd f 7 n) 7 n _ (by omega)).mono ?_
  clear l
  rintro e w1 ⟨rfl, b1⟩
  obtain ⟨q, qb⟩ := later2 b1
  have st := store_tot (cs := #[.int .i64 (upd f 7 n 0), .int .i64 (upd f 7 n 1), .int .i64 (upd f 7 n 2), .int .i64 (upd f 7 n 3), .int .i64 (upd f 7 n 4), .int .i64 (upd f 7 n 5), .int .i64 (upd f 7 n 6), .int .i64 (upd f 7 n 7), .int .i64 (upd f 7 n 8), .int .i64 (upd f 7 n 9), .int .i64 (upd f 7 n 10), .int .i64 (upd f 7 n 11), .int .i64 (upd f 7 n 12), .int .i64 (upd f 7 n 13), .int .i64 (upd f 7 n 14), .int .i64 (upd f 7 n 15), .int .i64 (upd f 7 n 16)]) q rfl rfl rfl
  have Q := Lib.hid q
  have QB := Lib.hid qb
  clear b1 q qb
  go_wp2_with fail
  exact ret_tot (cs := #[.int .i64 (upd f 7 n 0), .int .i64 (upd f 7 n 1), .int .i64 (upd f 7 n 2), .int .i64 (upd f 7 n 3), .int .i64 (upd f 7 n 4), .int .i64 (upd f 7 n 5), .int .i64 (upd f 7 n 6), .int .i64 (upd f 7 n 7), .int .i64 (upd f 7 n 8), .int .i64 (upd f 7 n 9), .int .i64 (upd f 7 n 10), .int .i64 (upd f 7 n 11), .int .i64 (upd f 7 n 12), .int .i64 (upd f 7 n 13), .int .i64 (upd f 7 n 14), .int .i64 (upd f 7 n 15), .int .i64 (upd f 7 n 16)]) Try.results18 rfl rfl (Blk_setRow Q.out _) rfl ⟨rfl, bel_setRow QB.out (by omega) _⟩
set_option maxHeartbeats 1000000 in
theorem set_8 (f : Nat → Int) (n : Int) (w : World) : Calls Try.prog 18 #[tot f, .int .i64 8, .int .i64 n] w (RetT (tot (upd f 8 n)) w) := by
  have l := load_tot (heap_alloc2_old w (.cells #[.int .i64 (f 0), .int .i64 (f 1), .int .i64 (f 2), .int .i64 (f 3), .int .i64 (f 4), .int .i64 (f 5), .int .i64 (f 6), .int .i64 (f 7), .int .i64 n, .int .i64 (f 9), .int .i64 (f 10), .int .i64 (f 11), .int .i64 (f 12), .int .i64 (f 13), .int .i64 (f 14), .int .i64 (f 15), .int .i64 (f 16)] 23) (.cells #[.int .i64 0, .int .i64 0, .int .i64 0, .int .i64 0, .int .i64 0, .int .i64 0, .int .i64 0, .int .i64 0, .int .i64 0, .int .i64 0, .int .i64 0, .int .i64 0, .int .i64 0, .int .i64 0, .int .i64 0, .int .i64 0, .int .i64 0] 23)) rfl
  go_enter Try.func18, Try.ntmps18
  go_wp2_with fail
  refine (later_no (upd f 8 n) 8 n _ (by omega)).mono ?_
  clear l
  rintro e w1 ⟨rfl, b1⟩
  obtain ⟨q, qb⟩ := later2 b1
  have st := store_tot (cs := #[.int .i64 (upd f 8 n 0), .int .i64 (upd f 8 n 1), .int .i64 (upd f 8 n 2), .int .i64 (upd f 8 n 3), .int .i64 (upd f 8 n 4), .int .i64 (upd f 8 n 5), .int .i64 (upd f 8 n 6), .int .i64 (upd f 8 n 7), .int .i64 (upd f 8 n 8), .int .i64 (upd f 8 n 9), .int .i64 (upd f 8 n 10), .int .i64 (upd f 8 n 11), .int .i64 (upd f 8 n 12), .int .i64 (upd f 8 n 13), .int .i64 (upd f 8 n 14), .int .i64 (upd f 8 n 15), .int .i64 (upd f 8 n 16)]) q rfl rfl rfl
  have Q := Lib.hid q
  have QB := Lib.hid qb
  clear b1 q qb
  go_wp2_with fail
  exact ret_tot (cs := #[.int .i64 (upd f 8 n 0), .int .i64 (upd f 8 n 1), .int .i64 (upd f 8 n 2), .int .i64 (upd f 8 n 3), .int .i64 (upd f 8 n 4), .int .i64 (upd f 8 n 5), .int .i64 (upd f 8 n 6), .int .i64 (upd f 8 n 7), .int .i64 (upd f 8 n 8), .int .i64 (upd f 8 n 9), .int .i64 (upd f 8 n 10), .int .i64 (upd f 8 n 11), .int .i64 (upd f 8 n 12), .int .i64 (upd f 8 n 13), .int .i64 (upd f 8 n 14), .int .i64 (upd f 8 n 15), .int .i64 (upd f 8 n 16)]) Try.results18 rfl rfl (Blk_setRow Q.out _) rfl ⟨rfl, bel_setRow QB.out (by omega) _⟩
set_option maxHeartbeats 1000000 in
theorem set_hi (f : Nat → Int) (k : Nat) (i n : Int) (w : World) (h9 : 9 ≤ k) (hk : k < 17) (hi : i = (k : Int)) : Calls Try.prog 18 #[tot f, .int .i64 i, .int .i64 n] w (RetT (tot (upd f k n)) w) := by
  have LA : Hid (∀ W, Calls Try.prog 23 #[tot f, .int .i64 i, .int .i64 n] W (RetT (tot (upd f k n)) W)) := fun W => by rw [hi]; exact later_any f k n W h9 hk
  have h0 : (i == 0) = false := beq_false_of_ne (by omega)
  have h1 : (i == 1) = false := beq_false_of_ne (by omega)
  have h2 : (i == 2) = false := beq_false_of_ne (by omega)
  have h3 : (i == 3) = false := beq_false_of_ne (by omega)
  have h4 : (i == 4) = false := beq_false_of_ne (by omega)
  have h5 : (i == 5) = false := beq_false_of_ne (by omega)
  have h6 : (i == 6) = false := beq_false_of_ne (by omega)
  have h7 : (i == 7) = false := beq_false_of_ne (by omega)
  have h8 : (i == 8) = false := beq_false_of_ne (by omega)
  clear hi h9 hk
  have l := load_tot (heap_alloc2_old w (.cells #[.int .i64 (f 0), .int .i64 (f 1), .int .i64 (f 2), .int .i64 (f 3), .int .i64 (f 4), .int .i64 (f 5), .int .i64 (f 6), .int .i64 (f 7), .int .i64 (f 8), .int .i64 (f 9), .int .i64 (f 10), .int .i64 (f 11), .int .i64 (f 12), .int .i64 (f 13), .int .i64 (f 14), .int .i64 (f 15), .int .i64 (f 16)] 23) (.cells #[.int .i64 0, .int .i64 0, .int .i64 0, .int .i64 0, .int .i64 0, .int .i64 0, .int .i64 0, .int .i64 0, .int .i64 0, .int .i64 0, .int .i64 0, .int .i64 0, .int .i64 0, .int .i64 0, .int .i64 0, .int .i64 0, .int .i64 0] 23)) rfl
  go_enter Try.func18, Try.ntmps18
  go_wp2_with fail
  refine (LA.out _).mono ?_
  generalize upd f k n = g at *
  clear LA
  clear l
  rintro e w1 ⟨rfl, b1⟩
  obtain ⟨q, qb⟩ := later2 b1
  have st := store_tot (cs := #[.int .i64 (g 0), .int .i64 (g 1), .int .i64 (g 2), .int .i64 (g 3), .int .i64 (g 4), .int .i64 (g 5), .int .i64 (g 6), .int .i64 (g 7), .int .i64 (g 8), .int .i64 (g 9), .int .i64 (g 10), .int .i64 (g 11), .int .i64 (g 12), .int .i64 (g 13), .int .i64 (g 14), .int .i64 (g 15), .int .i64 (g 16)]) q rfl rfl rfl
  have Q := Lib.hid q
  have QB := Lib.hid qb
  clear b1 q qb
  go_wp2_with fail
  exact ret_tot (cs := #[.int .i64 (g 0), .int .i64 (g 1), .int .i64 (g 2), .int .i64 (g 3), .int .i64 (g 4), .int .i64 (g 5), .int .i64 (g 6), .int .i64 (g 7), .int .i64 (g 8), .int .i64 (g 9), .int .i64 (g 10), .int .i64 (g 11), .int .i64 (g 12), .int .i64 (g 13), .int .i64 (g 14), .int .i64 (g 15), .int .i64 (g 16)]) Try.results18 rfl rfl (Blk_setRow Q.out _) rfl ⟨rfl, bel_setRow QB.out (by omega) _⟩
theorem set_any (f : Nat → Int) (k : Nat) (n : Int) (w : World) (hk : k < 17) : Calls Try.prog 18 #[tot f, .int .i64 (k : Int), .int .i64 n] w (RetT (tot (upd f k n)) w) := by
  by_cases h9 : 9 ≤ k
  · exact set_hi f k k n w h9 hk rfl
  · match k, h9 with
    | 0, _ => exact set_0 f n w
    | 1, _ => exact set_1 f n w
    | 2, _ => exact set_2 f n w
    | 3, _ => exact set_3 f n w
    | 4, _ => exact set_4 f n w
    | 5, _ => exact set_5 f n w
    | 6, _ => exact set_6 f n w
    | 7, _ => exact set_7 f n w
    | 8, _ => exact set_8 f n w
    | k + 9, h => exact absurd h (by omega)
end Go.Proofs.Ytlfcbfaoecdmoaa.Rc
