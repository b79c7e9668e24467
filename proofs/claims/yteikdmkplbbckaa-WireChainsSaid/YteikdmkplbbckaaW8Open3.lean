/-
  Arguments of chapter 8's statements opened: a slice of byte strings. No conditions.
-/
import Derived.Test.YteikdmkplbbckaaRows
import Derived.Test.YteikdmkplbbckaaOpen
import Derived.Test.YteikdmkplbbckaaW8Chains
namespace Go.Proofs.Yteikdmkplbbckaa.Opn
open Go.ChangeShapes Go.WideShapes Go.ChangeAt Go.RowKit Go.Deep Go.Proofs.Yteikdmkplbbckaa.Mem Go.Proofs.Yteikdmkplbbckaa.Wr

theorem cells_bytes : Try.prog.cellsOf 38 = 1 := by kernel_rfl
section
variable {H : Type} {enc : TypeId × Value → H} {w : World} {base : Nat} {spare : Nat → Bool} {held : Bool}
set_option maxRecDepth 100000 in
theorem open_bytess {r : Reach} {b0 : Nat} {v : Value} {d : DataW H} {p : List MemPlace}
    (hv : Value.okWide Try.prog w r b0 60 v) (h : DataW.Trod enc Try.prog w base spare held 60 v d p) : ∃ (A : Option Addr) (n c : Nat) (xs : List (List UInt8)), v = .slice A n c ∧ xs.length = n ∧ n ≤ 9223372036854775807 ∧ BsSl w A xs := by
  obtain ⟨fuel, hf⟩ := h
  obtain ⟨a0, len0, cap0, rfl⟩ := okWide_slice Try.underlying60 hv
  rcases open_slice1 Try.underlying60 cells_bytes (show DataW.trod enc Try.prog w base spare held fuel 60 [.slice a0 len0 cap0] = some (d, p) from hf) with ⟨e1, _⟩ | ⟨a, len, cap, m, k0, V, D, Pl, e1, _, hl, hm, hmm, _, hi⟩
  · injection e1 with e1 _
    exact ⟨none, 0, 0, [], e1, rfl, by omega, fun k x hk => by simp at hk⟩
  · injection e1 with e1 _
    have hx : ∀ k, k < len → ∃ x : List UInt8, ∃ b off A2 c2, some a = some ⟨b, off, none⟩ ∧ b < w.heap.size ∧ w.cell? ⟨b, off + k, none⟩ = some (.slice A2 x.length c2) ∧ Sl w 1 A2 x.length (byts x) ∧ x.length ≤ 9223372036854775807 := fun k hk => by
      obtain ⟨h1, h2⟩ := hi k (by rw [hmm]; split <;> omega)
      obtain ⟨h10, _⟩ := hi 0 (by rw [hmm]; split <;> omega)
      rw [add_none] at h10
      have hs : a.spot = none := cell_spot h10
      have hlt := World.block_lt_of_cell? w _ h10
      rw [add_eq a hs] at h1
      obtain ⟨A2, n2, c2, l, e2, s2, l2, hc2, hm2, _⟩ := open_bytes_at Try.underlying38 h2
      subst l2
      refine ⟨l, a.block, a.off, A2, c2, ?_, hlt, by rw [h1, e2], s2, by omega⟩
      rw [show a = ⟨a.block, a.off, none⟩ from by obtain ⟨b, o, s⟩ := a; simp only at hs; subst hs; rfl]
    obtain ⟨X, hX⟩ := Go.Deep.choose_lt hx
    refine ⟨some a, len, cap, (List.range len).map X, e1, by simp, by unfold maxLen at hm; omega, fun k x hk2 => ?_⟩
    rw [List.getElem?_map] at hk2
    cases hq : (List.range len)[k]? with
    | none => rw [hq] at hk2; cases hk2
    | some i =>
      obtain ⟨hlt, he⟩ := List.getElem?_eq_some_iff.1 hq
      rw [List.getElem_range] at he
      subst he
      rw [hq] at hk2
      injection hk2 with hk2
      subst hk2
      exact hX k (by simpa using hlt)
end
end Go.Proofs.Yteikdmkplbbckaa.Opn
