/-
  The calls of commitments with the states and results named; stores of whole structs; the calls of a nil object. Conditions: the object lies in memory.
-/
import Derived.Test.YtdgekhbmcmojdaaCmP3
import Derived.Test.YtdgekhbmcmojdaaCmW3
import Derived.Test.YtdgekhbmcmojdaaEqs
namespace Go.Proofs.Ytdgekhbmcmojdaa.Cm
open Go.RowKit Go.Proofs.Ytdgekhbmcmojdaa.Mem Go.Proofs.Ytdgekhbmcmojdaa.Dg Go.Proofs.Ytdgekhbmcmojdaa.Mp Go.Proofs.Ytdgekhbmcmojdaa.Eqs

def storeRow (t : TypeId) (p v : Value) : Sem Unit := Instr.storeAt t p v
theorem exec_store_rv (ρ : Operand → Value) (dst : Option Tmp) (x y : Operand) (ty : TypeId) (pos : String) (after : Array Edge) (guard : Option (Nat × Bool)) :
    execOp ρ { dst, op := .store 24 x y, type := ty, pos, after, guard } = (do storeRow 24 (ρ x) (ρ y); pure .skip) := rfl
theorem store_rv {W : World} {g : Nat} {old cs : Array Value} (h : Blk W g 24 old) (ho : old.size = 3) (hs : cs.size = 3) (h1 : cs.toList.all (·.oneCell') = true) : (storeRow 24 (.pointer (some ⟨g, 0, none⟩)) (.agg cs)).run Try.prog W = .ok () (W.setRow g cs) := by
  unfold storeRow
  simp only [Instr.storeAt, Instr.sureAddr, Sem.run_bind, Sem.run_pure, Result.andThen_ok, run_storeVar_row W g 24 24 old cs h (size_rv.trans (congrArg some hs.symm)) (ho.trans hs.symm) (by rw [← Array.all_toList]; exact h1)]
theorem Blk_setRow {w : World} {g : Nat} {t : TypeId} {old : Array Value} (h : Blk w g t old) (cs : Array Value) : Blk (w.setRow g cs) g t cs := setRow_heap w g old cs t (0, 0) h
theorem bel_setRow {B g : Nat} {w0 w : World} (hb : Below B w0 w) (hg : B ≤ g) (cs : Array Value) : Below B w0 (w.setRow g cs) := ⟨hb.os, hb.tape, hb.output, by simpa using hb.size, fun i hi => (setRow_other w g i cs (by omega)).trans (hb.block i hi)⟩

theorem short {n : Nat} (h : n ≤ 100) : n < maxLen := Nat.lt_of_le_of_lt h (by decide)
section
variable {g d v : Nat} {s s' : St} {W : World}
theorem commit_to {p x e : Int} (h : Cm W g d v s) (hp : I64 p) (hx : U64 x) (hn : s.cs.length < maxLen) (hc : comE s p = e ∧ com s p x = s') :
    Calls Try.prog 14 #[.pointer (some ⟨g, 0, none⟩), .agg #[.int .i64 p, .int .u64 x]] W (CmPost g d v s' (.int .i64 e) W) := by
  obtain ⟨rfl, rfl⟩ := hc
  exact commit_any g d v s p x W h hp hx hn
theorem reveal_to {p x n e : Int} (h : Cm W g d v s) (hp : I64 p) (hx : U64 x) (hn : U64 n) (hm : s.rs.length < maxLen) (hc : revE s p x n = e ∧ rev s p x n = s') :
    Calls Try.prog 18 #[.pointer (some ⟨g, 0, none⟩), .agg #[.int .i64 p, .int .u64 x, .int .u64 n]] W (CmPost g d v s' (.int .i64 e) W) := by
  obtain ⟨rfl, rfl⟩ := hc
  exact reveal_any g d v s p x n W h hp hn hx hm
theorem lock_to {e : Int} (h : Cm W g d v s) (hc : lockE s = e ∧ lock s = s') :
    Calls Try.prog 16 #[.pointer (some ⟨g, 0, none⟩)] W (CmPost g d v s' (.int .i64 e) W) := by
  obtain ⟨rfl, rfl⟩ := hc
  exact lock_any g d v s W h
theorem seed_to {x e : Int} (h : Cm W g d v s) (hok : s.ok) (hc : seed s = x ∧ seedE s = e) :
    Calls Try.prog 20 #[.pointer (some ⟨g, 0, none⟩)] W fun e' w' => e' = .returned (.tuple #[.int .u64 x, .int .i64 e]) ∧ Below W.heap.size W w' := by
  obtain ⟨rfl, rfl⟩ := hc
  exact seed_any g d v s W h hok
theorem missing_to {xs : List Int} {n : Nat} (h : Cm W g d v s) (hok : s.ok) (hc : missing s = xs) (hn : xs.length = n) :
    Calls Try.prog 23 #[.pointer (some ⟨g, 0, none⟩)] W fun e w' => ∃ A c, e = .returned (.slice A n c) ∧ Sl w' 1 A n (ints xs) ∧ (∀ a, A = some a → W.heap.size ≤ a.block) ∧ Below W.heap.size W w' := by
  subst hc hn
  refine (missing_any g d v s W h hok).mono ?_
  rintro e w' ⟨x, rfl, ho, hk, hb⟩
  obtain ⟨A, c, rfl, hs⟩ := own_form ho
  exact ⟨A, c, rfl, hs, fun a ha => hk a.block (by subst ha; rfl), hb⟩
theorem locked_to {b : Bool} (h : Cm W g d v s) (hb : s.lock = b) :
    Calls Try.prog 25 #[.pointer (some ⟨g, 0, none⟩)] W fun e w' => e = .returned (.bool b) ∧ W = w' := by
  subst hb
  exact locked_any g d v s W h
theorem Cm.far (h : Cm W g d v s) : ¬ own3 g d v W.heap.size := fun hk => Nat.lt_irrefl _ (h.lt hk)
theorem Cm.farA (h : Cm W g d v s) {A : Option Addr} (hA : ∀ a, A = some a → W.heap.size ≤ a.block) : ∀ a, A = some a → ¬ own3 g d v a.block := fun a ha hk => absurd (h.lt hk) (by have := hA a ha; omega)
end
/-- Ints on two lists that are the same. -/
theorem ints_yes (xs : List Int) (n m : Nat) (A B : Option Addr) (ca cb : Nat) (w : World) (ha : Sl w 1 A n (ints xs)) (hb : Sl w 1 B m (ints xs)) (hn : n ≤ 9223372036854775807) :
    Calls Try.prog 22 #[.slice A n ca, .slice B m cb] w fun e w' => e = .returned (.bool true) ∧ Below w.heap.size w w' := by
  refine (ints13 xs xs n m A B ca cb w ha hb hn).mono ?_
  rintro e w' ⟨rfl, q, rfl⟩
  exact ⟨by simp, below_of_drewN _ _ _⟩
theorem new_ints (w : World) (xs : List Int) (t : TypeId) (n g : Nat) (hn : xs.length = n) (hg : g = w.heap.size) : Sl (w.alloc (.cells (ints xs).toArray t)) 1 (some ⟨g, 0, none⟩) n (ints xs) :=
  ⟨by rw [ints_len, hn, Nat.mul_one], fun _ => ⟨g, 0, rfl, fun j u hu => by rw [hg, World.cell?_alloc_mark]; simpa using hu⟩⟩
theorem new_to {n q : Int} (w : World) (h1 : 1 ≤ n) (h2 : n ≤ 8) (h3 : 1 ≤ q) (h4 : q ≤ n) : Calls Try.prog 9 #[.int .i64 n, .int .i64 q] w (NewCm n q w) := new_yes n q w h1 h2 h3 h4

/-! ### a nil object -/
set_option maxRecDepth 100000 in
theorem nil_seed (w : World) : Calls Try.prog 20 #[.pointer none] w fun e w' => e = .returned (.tuple #[.int .u64 0, .int .i64 5]) ∧ Below w.heap.size w w' := by
  go_enter Try.func20, Try.ntmps20
  go_wp2_with fail
  go_ret2
  exact ⟨rfl, Below.refl _ _⟩
set_option maxRecDepth 100000 in
theorem nil_missing (w : World) : Calls Try.prog 23 #[.pointer none] w fun e w' => e = .returned (.slice none 0 0) ∧ Below w.heap.size w w' := by
  go_enter Try.func23, Try.ntmps23
  go_wp2_with fail
  go_ret
  exact ⟨rfl, Below.refl _ _⟩
set_option maxRecDepth 100000 in
theorem nil_locked (w : World) : Calls Try.prog 25 #[.pointer none] w fun e w' => e = .returned (.bool false) ∧ Below w.heap.size w w' := by
  go_enter Try.func25, Try.ntmps25
  go_wp2_with fail
  go_ret
  exact ⟨rfl, Below.refl _ _⟩
set_option maxRecDepth 100000 in
theorem nil_lock (w : World) : Calls Try.prog 16 #[.pointer none] w fun e w' => e = .returned (.int .i64 5) ∧ Below w.heap.size w w' := by
  go_enter Try.func16, Try.ntmps16
  go_wp2_with fail
  go_ret
  exact ⟨rfl, Below.refl _ _⟩
set_option maxRecDepth 100000 in
theorem nil_commit (w : World) (p x : Int) : Calls Try.prog 14 #[.pointer none, .agg #[.int .i64 p, .int .u64 x]] w fun e w' => e = .returned (.int .i64 5) ∧ Below w.heap.size w w' := by
  go_enter Try.func14, Try.ntmps14
  go_wp2_with fail
  go_ret
  exact ⟨rfl, (Below.refl _ _).alloc (Nat.le_refl _) _⟩
set_option maxRecDepth 100000 in
theorem nil_reveal (w : World) (p x n : Int) : Calls Try.prog 18 #[.pointer none, .agg #[.int .i64 p, .int .u64 x, .int .u64 n]] w fun e w' => e = .returned (.int .i64 5) ∧ Below w.heap.size w w' := by
  go_enter Try.func18, Try.ntmps18
  go_wp2_with fail
  go_ret
  exact ⟨rfl, (Below.refl _ _).alloc (Nat.le_refl _) _⟩
end Go.Proofs.Ytdgekhbmcmojdaa.Cm
