/-
  A slice of a slice: the operation is kept shut ('cutAt'), and its run is told: the cells between the two bounds. No conditions beside the bounds.
-/
import Derived.Test.YthpmngdpgniehaaApp
namespace Go.Proofs.Ythpmngdpgniehaa.Mem
open Go Go.RowKit

def cutAt (t : TypeId) (x : Value) (lo hi mx : Option Value) : Sem Value := Instr.sliceAt t x lo hi mx
theorem exec_cut (ρ : Operand → Value) (dst : Option Tmp) (t : TypeId) (x : Operand) (lo hi mx : Option Operand) (ty : TypeId) (pos : String) (after : Array Edge) (guard : Option (Nat × Bool)) :
    execOp ρ { dst, op := .slice t x lo hi mx, type := ty, pos, after, guard } = (do pure (.value (← cutAt t (ρ x) (lo.map ρ) (hi.map ρ) (mx.map ρ)))) := rfl

/-- what a slice of a slice is good for: the cells from lo to hi of elements of size cells each. -/
structure CutOf (A : Option Addr) (n c lo hi size : Nat) (A2 : Option Addr) (c2 : Nat) : Prop where
  cells : ∀ W xs, Sl W size A n xs → hi ≤ n → Sl W size A2 (hi - lo) ((xs.drop (lo * size)).take ((hi - lo) * size))
  block : ∀ a2, A2 = some a2 → ∃ a, A = some a ∧ a.block = a2.block
  cap : hi - lo ≤ c2 ∧ c2 ≤ c
theorem cut_of (A : Option Addr) (n c lo hi m size : Nat) (h1 : lo ≤ hi) (h2 : hi ≤ m) (h3 : m ≤ c) : CutOf A n c lo hi size (if m = lo then A else A.map (·.add (lo * size))) (m - lo) := by
  refine ⟨fun W xs hs hn => ?_, fun a2 e => ?_, by omega, by omega⟩
  · refine ⟨?_, fun h0 => ?_⟩
    · rw [List.length_take, List.length_drop, hs.1, ← Nat.sub_mul]
      exact Nat.min_eq_left (Nat.mul_le_mul_right _ (by omega))
    · obtain ⟨b, off, rfl, hc⟩ := hs.2 (by omega)
      rw [if_neg (by omega)]
      refine ⟨b, off + lo * size, by simp [Addr.add_lit], fun j u hu => ?_⟩
      rw [List.getElem?_take] at hu
      split at hu
      · rw [List.getElem?_drop] at hu
        rw [Nat.add_assoc]
        exact hc _ u hu
      · cases hu
  · split at e
    · exact ⟨a2, e, rfl⟩
    · rcases A with _ | a
      · cases e
      · simp only [Option.map_some, Option.some.injEq] at e
        refine ⟨a, rfl, ?_⟩
        rw [← e]
        unfold Addr.add
        split <;> rfl
theorem elem_under {P : Program} {t e : TypeId} (ht : P.underlying t = some (.slice e)) : P.underlying t = some (.slice (P.elem t)) := by
  have he : P.elem t = e := by simp [Program.elem, ht]
  rw [he]
  exact ht
section
variable {P : Program} {t e : TypeId} {size : Nat} (ht : P.underlying t = some (.slice e)) (hsz : (P.info? e).map (·.size) = some size)
include ht hsz
theorem run_size (W : World) : (sizeOf (P.elem t)).run P W = .ok size W := by
  have he : P.elem t = e := by simp [Program.elem, ht]
  rw [he]
  cases hq : P.info? e with
  | none => simp [hq] at hsz
  | some i =>
    have hs : i.size = size := by simpa [hq] using hsz
    simp [sizeOf, typeInfo, hq, hs]
/-- x[lo:hi] -/
theorem run_cut (A : Option Addr) (n c lo hi : Nat) (h1 : lo ≤ hi) (h2 : hi ≤ c) :
    ∃ A2 c2, (∀ W, (cutAt t (.slice A n c) (some (.int .i64 (lo : Int))) (some (.int .i64 (hi : Int))) none).run P W = .ok (.slice A2 (hi - lo) c2) W) ∧ CutOf A n c lo hi size A2 c2 := by
  refine ⟨_, _, fun W => ?_, cut_of A n c lo hi c size h1 h2 (Nat.le_refl _)⟩
  have hu := elem_under ht
  rw [cutAt, run_sliceAt_slice _ _ _ _ _ _ hu, run_slice_lh _ _ _ _ _ hu _ _ _ _ (by omega) (by omega) (by omega), run_size ht hsz]
  simp [Result.andThen, sliced]
/-- x[:hi] -/
theorem run_cut_to (A : Option Addr) (n c hi : Nat) (h2 : hi ≤ c) :
    ∃ A2 c2, (∀ W, (cutAt t (.slice A n c) none (some (.int .i64 (hi : Int))) none).run P W = .ok (.slice A2 hi c2) W) ∧ CutOf A n c 0 hi size A2 c2 := by
  refine ⟨_, _, fun W => ?_, cut_of A n c 0 hi c size (Nat.zero_le _) h2 (Nat.le_refl _)⟩
  have hu := elem_under ht
  rw [cutAt, run_sliceAt_slice _ _ _ _ _ _ hu, run_slice_h _ _ _ _ _ hu _ _ (by omega) (by omega), run_size ht hsz]
  simp [Result.andThen, sliced]
/-- x[lo:] -/
theorem run_cut_from (A : Option Addr) (n c lo : Nat) (h1 : lo ≤ n) (h2 : n ≤ c) :
    ∃ A2 c2, (∀ W, (cutAt t (.slice A n c) (some (.int .i64 (lo : Int))) none none).run P W = .ok (.slice A2 (n - lo) c2) W) ∧ CutOf A n c lo n size A2 c2 := by
  refine ⟨_, _, fun W => ?_, cut_of A n c lo n c size h1 h2 (Nat.le_refl _)⟩
  have hu := elem_under ht
  rw [cutAt, run_sliceAt_slice _ _ _ _ _ _ hu, run_slice_l _ _ _ _ _ hu _ _ (by omega) (by omega), run_size ht hsz]
  simp [Result.andThen, sliced]
/-- x[:hi:hi] -/
theorem run_cut_max (A : Option Addr) (n c hi : Nat) (h2 : hi ≤ c) :
    ∃ A2, (∀ W, (cutAt t (.slice A n c) none (some (.int .i64 (hi : Int))) (some (.int .i64 (hi : Int)))).run P W = .ok (.slice A2 hi hi) W) ∧ CutOf A n c 0 hi size A2 hi := by
  refine ⟨_, fun W => ?_, cut_of A n c 0 hi hi size (Nat.zero_le _) (Nat.le_refl _) h2⟩
  have hu := elem_under ht
  rw [cutAt, run_sliceAt_slice _ _ _ _ _ _ hu, run_slice_hm _ _ _ _ _ hu _ _ _ _ (by omega) (by omega) (by omega), run_size ht hsz]
  simp [Result.andThen, sliced]
end
end Go.Proofs.Ythpmngdpgniehaa.Mem
