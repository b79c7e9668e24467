/-
  Arguments opened: a slice of truth values, a small number. No conditions.
-/
import Derived.Test.YtdgekhbmcmojdaaCmOpen
import Derived.Test.YtdgekhbmcmojdaaCmRun
namespace Go.Proofs.Ytdgekhbmcmojdaa.Opn
open Go.ChangeShapes Go.WideShapes Go.ChangeAt Go.RowKit Go.Deep Go.Proofs.Ytdgekhbmcmojdaa.Mem Go.Proofs.Ytdgekhbmcmojdaa.Dg Go.Proofs.Ytdgekhbmcmojdaa.Cm

theorem cells_bool : Try.prog.cellsOf 4 = 1 := by kernel_rfl
section
variable {H : Type} {enc : TypeId × Value → H} {w : World} {base : Nat} {spare : Nat → Bool} {held : Bool}
theorem open_bools {r : Reach} {b0 : Nat} {v : Value} {d : DataW H} {p : List MemPlace}
    (hv : Value.okWide Try.prog w r b0 52 v) (h : DataW.Trod enc Try.prog w base spare held 52 v d p) : ∃ (A : Option Addr) (n c : Nat) (os : List Bool), v = .slice A n c ∧ Sl w 1 A n (bools os) ∧ n ≤ 9223372036854775807 := by
  obtain ⟨fuel, hf⟩ := h
  obtain ⟨a, len, cap, rfl⟩ := okWide_slice Try.underlying52 hv
  rcases open_slice Try.underlying52 (show DataW.trod enc Try.prog w base spare held fuel 52 [.slice a len cap] = some (d, p) from hf) with ⟨e1, _⟩ | ⟨a, len, cap, m, n, D, Pl, e1, _, hl, hm, hmm, _, hi⟩
  · injection e1 with e1 _
    exact ⟨none, 0, 0, [], e1, Sl.nil_ _ _ _, by omega⟩
  · injection e1 with e1 _
    have hk : ∀ k, k < len → ∃ b, w.cell? (a.add k) = some (.bool b) := fun k hkl => by
      obtain ⟨cs', hc, ht'⟩ := hi k (by rw [hmm]; split <;> omega)
      rw [cells_bool] at hc
      obtain ⟨b, e, _⟩ := DataW.trod_bool Try.underlying4 ht'
      obtain ⟨_, hcl, hat⟩ := World.cells?_some hc
      have h1 := hat 0 (by omega)
      rw [e, add_none, Nat.mul_one] at h1
      exact ⟨b, h1⟩
    obtain ⟨X, hX⟩ := Go.Deep.choose_lt hk
    refine ⟨some a, len, cap, (List.range len).map X, e1, ⟨by simp [bools], fun h0 => ?_⟩, by unfold maxLen at hm; omega⟩
    have h1 := hX 0 h0
    rw [add_none] at h1
    have hs := cell_spot h1
    refine ⟨a.block, a.off, by rw [show a = ⟨a.block, a.off, none⟩ from by obtain ⟨b, o, s⟩ := a; simp only at hs; subst hs; rfl], fun j u hu => ?_⟩
    unfold bools at hu
    rw [List.getElem?_map, List.getElem?_map] at hu
    cases hq : (List.range len)[j]? with
    | none => rw [hq] at hu; cases hu
    | some i =>
      obtain ⟨hlt, he⟩ := List.getElem?_eq_some_iff.1 hq
      rw [List.getElem_range] at he
      subst he
      rw [hq] at hu
      injection hu with hu
      subst hu
      have h2 := hX j (by simpa using hlt)
      rw [add_eq a hs] at h2
      exact h2
end
end Go.Proofs.Ytdgekhbmcmojdaa.Opn
