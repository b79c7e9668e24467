/-
  Arguments opened: a slice of calls; a slice of truth values. No conditions.
-/
import Derived.Test.YtdgekhbmcmojdaaCmOpen
import Derived.Test.YtdgekhbmcmojdaaCmB
namespace Go.Proofs.Ytdgekhbmcmojdaa.Opn
open Go.ChangeShapes Go.WideShapes Go.ChangeAt Go.RowKit Go.Deep Go.Proofs.Ytdgekhbmcmojdaa.Mem Go.Proofs.Ytdgekhbmcmojdaa.Dg Go.Proofs.Ytdgekhbmcmojdaa.Cm

theorem field_at {fs : Array Field} {ts : List TypeId} (h : fs.toList.map (·.type) = ts) {j : Nat} {t : TypeId} (hj : ts[j]? = some t) : ∃ f, fs[j]? = some f ∧ f.type = t := by
  rw [← h, List.getElem?_map] at hj
  cases hq : fs.toList[j]? with
  | none => rw [hq] at hj; cases hj
  | some f =>
    rw [hq] at hj
    injection hj with hj
    exact ⟨f, by simpa using hq, hj⟩
instance : Inhabited Do := ⟨⟨0, 0, 0, 0, 0⟩⟩
theorem do_under : Try.prog.underlying 37 = some (.struct (Try.prog.fieldsOf 37)) := by kernel_rfl
theorem do_one : oneCellFields Try.prog (Try.prog.fieldsOf 37) = true := by kernel_rfl
theorem do_cells : Try.prog.cellsOf 37 = 5 := by kernel_rfl
theorem do_types : (Try.prog.fieldsOf 37).toList.map (·.type) = [3, 3, 22, 22, 22] := by kernel_rfl
theorem do_size : (Try.prog.fieldsOf 37).size = 5 := by
  have := congrArg List.length do_types
  simpa using this
section
variable {H : Type} {enc : TypeId × Value → H} {w : World} {base : Nat} {spare : Nat → Bool} {held : Bool}
theorem open_dos {r : Reach} {b0 : Nat} {v : Value} {d : DataW H} {p : List MemPlace}
    (hv : Value.okWide Try.prog w r b0 35 v) (h : DataW.Trod enc Try.prog w base spare held 35 v d p) : ∃ (A : Option Addr) (n c : Nat) (xs : List Do), v = .slice A n c ∧ xs.length = n ∧ DoSl w A xs := by
  obtain ⟨fuel, hf⟩ := h
  obtain ⟨a, len, cap, rfl⟩ := okWide_slice Try.underlying35 hv
  obtain ⟨A, n, c, e, hn, hc, hk⟩ := open_structs Try.underlying35 do_under do_one (do_cells.trans do_size.symm) (show DataW.trod enc Try.prog w base spare held fuel 35 [.slice a len cap] = some (d, p) from hf)
  rw [do_size] at hk
  have hx : ∀ k, k < n → ∃ x : Do, ∃ b off, A = some ⟨b, off, none⟩ ∧ b < w.heap.size ∧ (w.cell? ⟨b, off + k * 5, none⟩ = some (.int .i64 x.kind) ∧ w.cell? ⟨b, off + k * 5 + 1, none⟩ = some (.int .i64 x.party) ∧ w.cell? ⟨b, off + k * 5 + 2, none⟩ = some (.int .u64 x.value) ∧ w.cell? ⟨b, off + k * 5 + 3, none⟩ = some (.int .u64 x.nonce) ∧ w.cell? ⟨b, off + k * 5 + 4, none⟩ = some (.int .u64 x.turn)) ∧ Cm.I64 x.party ∧ U64 x.value ∧ U64 x.nonce := fun k hkn => by
    obtain ⟨b, off, e1, hlt, cs, hl, hcell, m, hf2⟩ := hk k hkn (by decide)
    obtain ⟨f0, g0, t0⟩ := field_at do_types (j := 0) (t := 3) rfl
    obtain ⟨f1, g1, t1⟩ := field_at do_types (j := 1) (t := 3) rfl
    obtain ⟨f2, g2, t2⟩ := field_at do_types (j := 2) (t := 22) rfl
    obtain ⟨f3, g3, t3⟩ := field_at do_types (j := 3) (t := 22) rfl
    obtain ⟨f4, g4, t4⟩ := field_at do_types (j := 4) (t := 22) rfl
    obtain ⟨u0, y0, c0, r0⟩ := hf2 0 f0 g0
    obtain ⟨u1, y1, c1, r1⟩ := hf2 1 f1 g1
    obtain ⟨u2, y2, c2, r2⟩ := hf2 2 f2 g2
    obtain ⟨u3, y3, c3, r3⟩ := hf2 3 f3 g3
    obtain ⟨u4, y4, c4, r4⟩ := hf2 4 f4 g4
    rw [t0] at r0
    rw [t1] at r1
    rw [t2] at r2
    rw [t3] at r3
    rw [t4] at r4
    obtain ⟨a0, rfl, _⟩ := int_at r0
    obtain ⟨a1, rfl, w1⟩ := int_at r1
    obtain ⟨a2, rfl, w2⟩ := u64_at r2
    obtain ⟨a3, rfl, w3⟩ := u64_at r3
    obtain ⟨a4, rfl, _⟩ := u64_at r4
    exact ⟨⟨a0, a1, a2, a3, a4⟩, b, off, e1, hlt, ⟨hcell 0 _ c0, hcell 1 _ c1, hcell 2 _ c2, hcell 3 _ c3, hcell 4 _ c4⟩, w1, w2, w3⟩
  obtain ⟨X, hX⟩ := Go.Deep.choose_lt hx
  refine ⟨A, n, c, (List.range n).map X, e, by simp, fun k x hk2 => ?_⟩
  rw [List.getElem?_map] at hk2
  cases hq : (List.range n)[k]? with
  | none => rw [hq] at hk2; cases hk2
  | some i =>
    obtain ⟨hlt, he⟩ := List.getElem?_eq_some_iff.1 hq
    rw [List.getElem_range] at he
    subst he
    rw [hq] at hk2
    injection hk2 with hk2
    subst hk2
    exact hX k (by simpa using hlt)
end
end Go.Proofs.Ytdgekhbmcmojdaa.Opn
