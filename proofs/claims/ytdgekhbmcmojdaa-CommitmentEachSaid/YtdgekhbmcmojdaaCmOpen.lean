/-
  Arguments opened: an opening, a commitment, numbers. No conditions.
-/
import Derived.Test.YtdgekhbmcmojdaaRows
import Derived.Test.YtdgekhbmcmojdaaOpen
import Derived.Test.YtdgekhbmcmojdaaDgPlain
namespace Go.Proofs.Ytdgekhbmcmojdaa.Opn
open Go.ChangeShapes Go.WideShapes Go.ChangeAt Go.RowKit Go.Deep Go.Proofs.Ytdgekhbmcmojdaa.Mem Go.Proofs.Ytdgekhbmcmojdaa.Dg

theorem rv_under : Try.prog.underlying 24 = some (.struct (Try.prog.fieldsOf 24)) := by kernel_rfl
theorem rv_cells : Try.prog.cellsOf 24 = 3 := by kernel_rfl
theorem rv_parts : (Try.prog.fieldsOf 24).toList.map (fun f => (f.type, f.offset, Try.prog.cellsOf f.type)) = [(3, 0, 1), (22, 1, 1), (22, 2, 1)] := by kernel_rfl
theorem tx_under : Try.prog.underlying 39 = some (.struct (Try.prog.fieldsOf 39)) := by kernel_rfl
theorem tx_cells : Try.prog.cellsOf 39 = 2 := by kernel_rfl
theorem tx_parts : (Try.prog.fieldsOf 39).toList.map (fun f => (f.type, f.offset, Try.prog.cellsOf f.type)) = [(3, 0, 1), (22, 1, 1)] := by kernel_rfl
theorem u64_of_wf {n : Int} (h : (Lit.int .u64 n).wf = true) : U64 n := by
  have := u64_range h
  exact ⟨this.1, by have := this.2; omega⟩
section
variable {H : Type} {enc : TypeId × Value → H} {w : World} {base : Nat} {spare : Nat → Bool} {held : Bool}
/-- a field of a struct. -/
theorem part_at {t : TypeId} {fs : Array Field} {ts : List (TypeId × Nat × Nat)} {fuel : Nat} {cs : List Value} {x : DataW H × List MemPlace} (ht : Try.prog.underlying t = some (.struct fs)) (hts : fs.toList.map (fun f => (f.type, f.offset, Try.prog.cellsOf f.type)) = ts)
    (h : DataW.trod enc Try.prog w base spare held fuel t cs = some x) {j o c : Nat} {ty : TypeId} (hj : ts[j]? = some (ty, o, c)) : ∃ n y, DataW.trod enc Try.prog w base spare held n ty ((cs.drop o).take c) = some y := by
  obtain ⟨ys, n, _, _, _, hyl, hf⟩ := DataW.trod_struct ht h
  rw [← hts, List.getElem?_map] at hj
  cases hq : fs.toList[j]? with
  | none => rw [hq] at hj; cases hj
  | some f =>
    rw [hq] at hj
    injection hj with hj
    injection hj with h1 h2
    injection h2 with h2 h3
    have hjf : fs[j]? = some f := by simpa using hq
    have h4 := hf j f hjf
    rw [h1, h2] at h4
    rw [h1] at h3
    rw [h3] at h4
    have hjl : j < ys.length := by have := (Array.getElem?_eq_some_iff.1 hjf).1; omega
    exact ⟨n, _, h4.trans (List.getElem?_eq_getElem hjl)⟩
theorem int_at {n : Nat} {v : Value} {y : DataW H × List MemPlace} (h : DataW.trod enc Try.prog w base spare held n 3 [v] = some y) : ∃ a, v = .int .i64 a ∧ -9223372036854775808 ≤ a ∧ a ≤ 9223372036854775807 := by
  obtain ⟨a, e, _, wf⟩ := DataW.trod_int Try.underlying3 h
  injection e with e _
  exact ⟨a, e, i64_range wf⟩
theorem u64_at {n : Nat} {v : Value} {y : DataW H × List MemPlace} (h : DataW.trod enc Try.prog w base spare held n 22 [v] = some y) : ∃ a : Int, v = .int .u64 a ∧ U64 a := by
  obtain ⟨a, e, _, wf⟩ := DataW.trod_int Try.underlying22 h
  injection e with e _
  exact ⟨a, e, u64_of_wf wf⟩
set_option maxRecDepth 100000 in
theorem open_rv {r : Reach} {b0 : Nat} {v : Value} {d : DataW H} {p : List MemPlace}
    (hv : Value.okWide Try.prog w r b0 24 v) (h : DataW.Trod enc Try.prog w base spare held 24 v d p) : ∃ k x n : Int, v = .agg #[.int .i64 k, .int .u64 x, .int .u64 n] ∧ U64 x ∧ U64 n := by
  obtain ⟨cs, rfl, hsz⟩ := okWide_struct rv_under hv
  rw [rv_cells] at hsz
  obtain ⟨fuel, hf⟩ := h
  obtain ⟨l, rfl⟩ : ∃ l : List Value, cs = l.toArray := ⟨cs.toList, by simp⟩
  match l, hsz with
  | [d0, d1, d2], _ =>
    obtain ⟨_, _, h0⟩ := part_at rv_under rv_parts hf (j := 0) rfl
    obtain ⟨_, _, h1⟩ := part_at rv_under rv_parts hf (j := 1) rfl
    obtain ⟨_, _, h2⟩ := part_at rv_under rv_parts hf (j := 2) rfl
    simp only [Value.cells, List.drop_succ_cons, List.drop_zero, List.take_succ_cons, List.take_zero] at h0 h1 h2
    obtain ⟨a0, rfl, r0⟩ := int_at h0
    obtain ⟨a1, rfl, r1⟩ := u64_at h1
    obtain ⟨a2, rfl, r2⟩ := u64_at h2
    exact ⟨a0, a1, a2, rfl, r1, r2⟩
set_option maxRecDepth 100000 in
theorem open_tx {r : Reach} {b0 : Nat} {v : Value} {d : DataW H} {p : List MemPlace}
    (hv : Value.okWide Try.prog w r b0 39 v) (h : DataW.Trod enc Try.prog w base spare held 39 v d p) : ∃ k x : Int, v = .agg #[.int .i64 k, .int .u64 x] := by
  obtain ⟨cs, rfl, hsz⟩ := okWide_struct tx_under hv
  rw [tx_cells] at hsz
  obtain ⟨fuel, hf⟩ := h
  obtain ⟨l, rfl⟩ : ∃ l : List Value, cs = l.toArray := ⟨cs.toList, by simp⟩
  match l, hsz with
  | [d0, d1], _ =>
    obtain ⟨_, _, h0⟩ := part_at tx_under tx_parts hf (j := 0) rfl
    obtain ⟨_, _, h1⟩ := part_at tx_under tx_parts hf (j := 1) rfl
    simp only [Value.cells, List.drop_succ_cons, List.drop_zero, List.take_succ_cons, List.take_zero] at h0 h1
    obtain ⟨a0, rfl, r0⟩ := int_at h0
    obtain ⟨a1, rfl, r1⟩ := u64_at h1
    exact ⟨a0, a1, rfl⟩
theorem cells_u64 : Try.prog.cellsOf 22 = 1 := by kernel_rfl
set_option maxRecDepth 100000 in
theorem open_u64s {r : Reach} {b0 : Nat} {v : Value} {d : DataW H} {p : List MemPlace}
    (hv : Value.okWide Try.prog w r b0 51 v) (h : DataW.Trod enc Try.prog w base spare held 51 v d p) : ∃ (A : Option Addr) (n c : Nat) (l : List Int), v = .slice A n c ∧ Sl w 1 A n (l.map (Value.int .u64)) ∧ l.length = n ∧ n ≤ c ∧ c ≤ 9223372036854775807 ∧ (∀ z ∈ l, U64 z) ∧ (∀ a, 0 < n → A = some a → a.block < w.heap.size) := by
  obtain ⟨fuel, hf⟩ := h
  obtain ⟨a, len, cap, rfl⟩ := okWide_slice Try.underlying51 hv
  obtain ⟨A, n, c, zs, e, hs, hl, h1, h2, hwf, hb⟩ := open_row Try.underlying51 Try.underlying22 cells_u64 (show DataW.trod enc Try.prog w base spare held fuel 51 [.slice a len cap] = some (d, p) from hf)
  exact ⟨A, n, c, zs, e, hs, hl, h1, h2, fun z hz => u64_of_wf (hwf z hz), hb⟩
end
end Go.Proofs.Ytdgekhbmcmojdaa.Opn
