/-
  Rows of records built of values: the operation is kept shut ('buildRow'), and its run is told. Conditions: the values are records.
-/
import Derived.Test.YthpmngdpgniehaaJrFew
namespace Go.Proofs.Ythpmngdpgniehaa.Jr
open Go.RowKit Go.Proofs.Ythpmngdpgniehaa.Mem Go.Proofs.Ythpmngdpgniehaa.Wr Go.Proofs.Ythpmngdpgniehaa.Opn

def buildRow (t : TypeId) (len : Nat) (parts : Array (Nat × Value)) : Sem Value := Instr.buildSlice t len parts
theorem exec_build_recs (ρ : Operand → Value) (dst : Option Tmp) (len : Nat) (parts : Array (Nat × Operand)) (ty : TypeId) (pos : String) (after : Array Edge) (guard : Option (Nat × Bool)) :
    execOp ρ { dst, op := .buildSlice 29 len parts, type := ty, pos, after, guard } = (do pure (.value (← buildRow 29 len (parts.map fun (i, x) => (i, ρ x))))) := rfl
set_option maxRecDepth 100000 in
theorem build_one {w0 : World} {cs : Array Value} {r : Rec} (h : IsRec w0 cs r) (W : World) : (buildRow 29 1 #[(0, .agg cs)]).run Try.prog W = .ok (.slice (some ⟨W.heap.size, 0, none⟩) 1 1) (W.alloc (.cells cs 27)) := by
  obtain ⟨A7, c7, A11, c11, rfl, _⟩ := h
  unfold recCells
  obtain ⟨k0, k1, k2, k3, k4, xn, xt, xl, kk, ko, xi, xa⟩ := r
  kernel_rfl
set_option maxRecDepth 100000 in
theorem build_two {w0 w1 : World} {cs ds : Array Value} {r s : Rec} (h : IsRec w0 cs r) (h2 : IsRec w1 ds s) (W : World) : (buildRow 29 2 #[(0, .agg cs), (1, .agg ds)]).run Try.prog W = .ok (.slice (some ⟨W.heap.size, 0, none⟩) 2 2) (W.alloc (.cells (cs ++ ds) 27)) := by
  obtain ⟨A7, c7, A11, c11, rfl, _⟩ := h
  obtain ⟨B7, d7, B11, d11, rfl, _⟩ := h2
  unfold recCells
  obtain ⟨k0, k1, k2, k3, k4, xn, xt, xl, kk, ko, xi, xa⟩ := r
  obtain ⟨l0, l1, l2, l3, l4, yn, yt, yl, lk, lo, yi, ya⟩ := s
  kernel_rfl
theorem same_self (r : Rec) : r.same r = true := by simp [Rec.same]
/-- a row of one record. -/
theorem recsl_one {W : World} {g : Nat} (hg : g = W.heap.size) {cs : Array Value} {r : Rec} (h : IsRec W cs r) (t : TypeId) : RecSl (W.alloc (.cells cs t)) (some ⟨g, 0, none⟩) [r] := by
  subst hg
  intro k s hs
  have hk : k = 0 := by have := (List.getElem?_eq_some_iff.1 hs).1; simp at this; exact this
  subst hk
  have e : r = s := by simpa using hs
  subst e
  exact ⟨_, 0, cs, rfl, rec_size h, h.below ((Below.refl _ W).alloc (Nat.le_refl _) _) (Nat.le_refl _), fun j v hv => by rw [show 0 + 0 * 12 + j = j from by omega, World.cell?_alloc_mark]; exact hv⟩
theorem recsl_two {W : World} {g : Nat} (hg : g = W.heap.size) {cs ds : Array Value} {r s : Rec} (h : IsRec W cs r) (h2 : IsRec W ds s) (t : TypeId) : RecSl (W.alloc (.cells (cs ++ ds) t)) (some ⟨g, 0, none⟩) [r, s] := by
  subst hg
  intro k x hx
  have hk : k = 0 ∨ k = 1 := by have := (List.getElem?_eq_some_iff.1 hx).1; simp at this; omega
  rcases hk with rfl | rfl
  · have e : r = x := by simpa using hx
    subst e
    exact ⟨_, 0, cs, rfl, rec_size h, h.below ((Below.refl _ W).alloc (Nat.le_refl _) _) (Nat.le_refl _), fun j v hv => by
      rw [show 0 + 0 * 12 + j = j from by omega, World.cell?_alloc_mark, Array.getElem?_append_left (Array.getElem?_eq_some_iff.1 hv).1]
      exact hv⟩
  · have e : s = x := by simpa using hx
    subst e
    exact ⟨_, 0, ds, rfl, rec_size h2, h2.below ((Below.refl _ W).alloc (Nat.le_refl _) _) (Nat.le_refl _), fun j v hv => by
      rw [show 0 + 1 * 12 + j = cs.size + j from by rw [rec_size h], World.cell?_alloc_mark, Array.getElem?_append_right (Nat.le_add_right _ _), Nat.add_sub_cancel_left]
      exact hv⟩
end Go.Proofs.Ythpmngdpgniehaa.Jr
