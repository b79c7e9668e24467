/-
  Arguments of chapter 8's statements opened: a slice of calls, of byte strings. No conditions.
-/
import Derived.Test.YteikdmkplbbckaaW8Open
import Derived.Test.YteikdmkplbbckaaW8Reads
namespace Go.Proofs.Yteikdmkplbbckaa.Opn
open Go.ChangeShapes Go.WideShapes Go.ChangeAt Go.RowKit Go.Deep Go.Proofs.Yteikdmkplbbckaa.Mem Go.Proofs.Yteikdmkplbbckaa.Wr

theorem ask_under : Try.prog.underlying 46 = some (.struct (Try.prog.fieldsOf 46)) := by kernel_rfl
theorem ask_one : oneCellFields Try.prog (Try.prog.fieldsOf 46) = true := by kernel_rfl
theorem ask_cells : Try.prog.cellsOf 46 = 2 := by kernel_rfl
theorem ask_types : (Try.prog.fieldsOf 46).toList.map (·.type) = [3, 3] := by kernel_rfl
theorem ask_size : (Try.prog.fieldsOf 46).size = 2 := by
  have := congrArg List.length ask_types
  simpa using this
section
variable {H : Type} {enc : TypeId × Value → H} {w : World} {base : Nat} {spare : Nat → Bool} {held : Bool}
theorem open_asks {r : Reach} {b0 : Nat} {v : Value} {d : DataW H} {p : List MemPlace}
    (hv : Value.okWide Try.prog w r b0 40 v) (h : DataW.Trod enc Try.prog w base spare held 40 v d p) : ∃ (A : Option Addr) (n c : Nat) (xs : List (Int × Int)), v = .slice A n c ∧ xs.length = n ∧ n ≤ 9223372036854775807 ∧ AskSl w A xs := by
  obtain ⟨fuel, hf⟩ := h
  obtain ⟨a, len, cap, rfl⟩ := okWide_slice Try.underlying40 hv
  obtain ⟨A, n, c, e, hn, hc, hk⟩ := open_structs Try.underlying40 ask_under ask_one (ask_cells.trans ask_size.symm) (show DataW.trod enc Try.prog w base spare held fuel 40 [.slice a len cap] = some (d, p) from hf)
  rw [ask_size] at hk
  have hx : ∀ k, k < n → ∃ x : Int × Int, ∃ b off, A = some ⟨b, off, none⟩ ∧ b < w.heap.size ∧ w.cell? ⟨b, off + k * 2, none⟩ = some (.int .i64 x.1) ∧ w.cell? ⟨b, off + k * 2 + 1, none⟩ = some (.int .i64 x.2) ∧ I64 x.2 := fun k hkn => by
    obtain ⟨b, off, e1, hlt, cs, hl, hcell, m, hf2⟩ := hk k hkn (by decide)
    obtain ⟨f0, g0, t0⟩ := field_at ask_types (j := 0) (t := 3) rfl
    obtain ⟨f1, g1, t1⟩ := field_at ask_types (j := 1) (t := 3) rfl
    obtain ⟨u0, y0, c0, r0⟩ := hf2 0 f0 g0
    obtain ⟨u1, y1, c1, r1⟩ := hf2 1 f1 g1
    rw [t0] at r0
    rw [t1] at r1
    obtain ⟨a0, e0, _, _⟩ := DataW.trod_int Try.underlying3 r0
    obtain ⟨a1, e2, _, w1⟩ := DataW.trod_int Try.underlying3 r1
    injection e0 with e0 _
    injection e2 with e2 _
    subst e0 e2
    exact ⟨(a0, a1), b, off, e1, hlt, hcell 0 _ c0, hcell 1 _ c1, i64_range w1⟩
  obtain ⟨X, hX⟩ := Go.Deep.choose_lt hx
  refine ⟨A, n, c, (List.range n).map X, e, by simp, by omega, fun k x hk2 => ?_⟩
  rw [List.getElem?_map] at hk2
  cases hq : (List.range n)[k]? with
  | none => rw [hq] at hk2; cases hk2
  | some i =>
    obtain ⟨hlt, he⟩ := List.getElem?_eq_some_iff.1 hq
    rw [List.getElem_range] at he
    subst he
    rw [hq] at hk2
    injection hk2 with hk2
    subst hk2
    exact hX k (by simpa using hlt)
end
end Go.Proofs.Yteikdmkplbbckaa.Opn
