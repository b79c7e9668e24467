/-
  Arguments opened: a receipt, a ticket. No conditions.
-/
import Derived.Test.YtjnaooiklcbemaaRows
import Derived.Test.YtjnaooiklcbemaaOpen
import Derived.Test.YtjnaooiklcbemaaRtW5
namespace Go.Proofs.Ytjnaooiklcbemaa.Opn
open Go.ChangeShapes Go.WideShapes Go.ChangeAt Go.RowKit Go.Deep Go.Proofs.Ytjnaooiklcbemaa.Mem Go.Proofs.Ytjnaooiklcbemaa.Rt Go.Proofs.Ytjnaooiklcbemaa.Dg

theorem rc_under : Try.prog.underlying 24 = some (.struct (Try.prog.fieldsOf 24)) := by kernel_rfl
theorem rc_cells : Try.prog.cellsOf 24 = 7 := by kernel_rfl
theorem rc_parts : (Try.prog.fieldsOf 24).toList.map (fun f => (f.type, f.offset, Try.prog.cellsOf f.type)) = [(9, 0, 1), (9, 1, 1), (9, 2, 1), (3, 3, 1), (3, 4, 1), (3, 5, 1), (22, 6, 1)] := by kernel_rfl
theorem tk_under : Try.prog.underlying 35 = some (.struct (Try.prog.fieldsOf 35)) := by kernel_rfl
theorem tk_cells : Try.prog.cellsOf 35 = 14 := by kernel_rfl
theorem tk_parts : (Try.prog.fieldsOf 35).toList.map (fun f => (f.type, f.offset, Try.prog.cellsOf f.type)) = [(9, 0, 1), (9, 1, 1), (33, 2, 4), (9, 6, 1), (3, 7, 1), (3, 8, 1), (3, 9, 1), (3, 10, 1), (3, 11, 1), (3, 12, 1), (4, 13, 1)] := by kernel_rfl
theorem u64_of_wf {n : Int} (h : (Lit.int .u64 n).wf = true) : U64 n := by
  have := u64_range h
  exact ⟨this.1, by have := this.2; omega⟩
section
variable {H : Type} {enc : TypeId × Value → H} {w : World} {base : Nat} {spare : Nat → Bool} {held : Bool}
/-- a field of a struct. -/
theorem part_at {t : TypeId} {fs : Array Field} {ts : List (TypeId × Nat × Nat)} {fuel : Nat} {cs : List Value} {x : DataW H × List MemPlace} (ht : Try.prog.underlying t = some (.struct fs)) (hts : fs.toList.map (fun f => (f.type, f.offset, Try.prog.cellsOf f.type)) = ts)
    (h : DataW.trod enc Try.prog w base spare held fuel t cs = some x) {j o c : Nat} {ty : TypeId} (hj : ts[j]? = some (ty, o, c)) : ∃ n y, DataW.trod enc Try.prog w base spare held n ty ((cs.drop o).take c) = some y := by
  obtain ⟨ys, n, _, _, _, hyl, hf⟩ := DataW.trod_struct ht h
  rw [← hts, List.getElem?_map] at hj
  cases hq : fs.toList[j]? with
  | none => rw [hq] at hj; cases hj
  | some f =>
    rw [hq] at hj
    injection hj with hj
    injection hj with h1 h2
    injection h2 with h2 h3
    have hjf : fs[j]? = some f := by simpa using hq
    have h4 := hf j f hjf
    rw [h1, h2] at h4
    rw [h1] at h3
    rw [h3] at h4
    have hjl : j < ys.length := by have := (Array.getElem?_eq_some_iff.1 hjf).1; omega
    exact ⟨n, _, h4.trans (List.getElem?_eq_getElem hjl)⟩
theorem int_at {n : Nat} {v : Value} {y : DataW H × List MemPlace} (h : DataW.trod enc Try.prog w base spare held n 3 [v] = some y) : ∃ a, v = .int .i64 a ∧ -9223372036854775808 ≤ a ∧ a ≤ 9223372036854775807 := by
  obtain ⟨a, e, _, wf⟩ := DataW.trod_int Try.underlying3 h
  injection e with e _
  exact ⟨a, e, i64_range wf⟩
theorem u64_at {n : Nat} {v : Value} {y : DataW H × List MemPlace} (h : DataW.trod enc Try.prog w base spare held n 22 [v] = some y) : ∃ a : Nat, v = .int .u64 (a : Int) ∧ a < 18446744073709551616 := by
  obtain ⟨a, e, _, wf⟩ := DataW.trod_int Try.underlying22 h
  injection e with e _
  have := u64_range wf
  refine ⟨a.toNat, ?_, by omega⟩
  rw [Int.toNat_of_nonneg this.1]
  exact e
theorem str_at {n : Nat} {v : Value} {y : DataW H × List MemPlace} (h : DataW.trod enc Try.prog w base spare held n 9 [v] = some y) : ∃ s : ByteArray, v = .string s ∧ s.size ≤ 9223372036854775807 := by
  obtain ⟨s, e, _, wf⟩ := DataW.trod_string Try.underlying9 h
  injection e with e _
  exact ⟨s, e, wf⟩
set_option maxRecDepth 100000 in
theorem open_rc {r : Reach} {b0 : Nat} {v : Value} {d : DataW H} {p : List MemPlace}
    (hv : Value.okWide Try.prog w r b0 24 v) (h : DataW.Trod enc Try.prog w base spare held 24 v d p) : ∃ x : Rc, v = .agg x.cells ∧ x.ok := by
  obtain ⟨cs, rfl, hsz⟩ := okWide_struct rc_under hv
  rw [rc_cells] at hsz
  obtain ⟨fuel, hf⟩ := h
  obtain ⟨l, rfl⟩ : ∃ l : List Value, cs = l.toArray := ⟨cs.toList, by simp⟩
  match l, hsz with
  | [d0, d1, d2, d3, d4, d5, d6], _ =>
    obtain ⟨_, _, h0⟩ := part_at rc_under rc_parts hf (j := 0) rfl
    obtain ⟨_, _, h1⟩ := part_at rc_under rc_parts hf (j := 1) rfl
    obtain ⟨_, _, h2⟩ := part_at rc_under rc_parts hf (j := 2) rfl
    obtain ⟨_, _, h3⟩ := part_at rc_under rc_parts hf (j := 3) rfl
    obtain ⟨_, _, h4⟩ := part_at rc_under rc_parts hf (j := 4) rfl
    obtain ⟨_, _, h5⟩ := part_at rc_under rc_parts hf (j := 5) rfl
    obtain ⟨_, _, h6⟩ := part_at rc_under rc_parts hf (j := 6) rfl
    simp only [Value.cells, List.drop_succ_cons, List.drop_zero, List.take_succ_cons, List.take_zero] at h0 h1 h2 h3 h4 h5 h6
    obtain ⟨s0, rfl, r0⟩ := str_at h0
    obtain ⟨s1, rfl, r1⟩ := str_at h1
    obtain ⟨s2, rfl, r2⟩ := str_at h2
    obtain ⟨a3, rfl, r3⟩ := int_at h3
    obtain ⟨a4, rfl, r4⟩ := int_at h4
    obtain ⟨a5, rfl, r5⟩ := int_at h5
    obtain ⟨a6, rfl, r6⟩ := u64_at h6
    exact ⟨⟨s0, s1, s2, a3, a4, a5, a6⟩, rfl, r3, r4, r5, r6⟩
set_option maxRecDepth 100000 in
theorem open_tk {r : Reach} {b0 : Nat} {v : Value} {d : DataW H} {p : List MemPlace}
    (hv : Value.okWide Try.prog w r b0 35 v) (h : DataW.Trod enc Try.prog w base spare held 35 v d p) : ∃ (tc : Array Value) (num game : ByteArray) (first price date : Int), v = .agg tc ∧ IsTk tc num game first price date ∧ num.size ≤ 9223372036854775807 ∧ game.size ≤ 9223372036854775807 ∧ i64 first ∧ i64 price ∧ i64 date := by
  obtain ⟨cs, rfl, hsz⟩ := okWide_struct tk_under hv
  rw [tk_cells] at hsz
  obtain ⟨fuel, hf⟩ := h
  obtain ⟨l, rfl⟩ : ∃ l : List Value, cs = l.toArray := ⟨cs.toList, by simp⟩
  match l, hsz with
  | [d0, d1, d2, d3, d4, d5, d6, d7, d8, d9, d10, d11, d12, d13], _ =>
    obtain ⟨_, _, h0⟩ := part_at tk_under tk_parts hf (j := 0) rfl
    obtain ⟨_, _, h1⟩ := part_at tk_under tk_parts hf (j := 1) rfl
    obtain ⟨_, _, h7⟩ := part_at tk_under tk_parts hf (j := 4) rfl
    obtain ⟨_, _, h8⟩ := part_at tk_under tk_parts hf (j := 5) rfl
    obtain ⟨_, _, h9⟩ := part_at tk_under tk_parts hf (j := 6) rfl
    simp only [Value.cells, List.drop_succ_cons, List.drop_zero, List.take_succ_cons, List.take_zero] at h0 h1 h7 h8 h9
    obtain ⟨s0, rfl, r0⟩ := str_at h0
    obtain ⟨s1, rfl, r1⟩ := str_at h1
    obtain ⟨a7, rfl, r7⟩ := int_at h7
    obtain ⟨a8, rfl, r8⟩ := int_at h8
    obtain ⟨a9, rfl, r9⟩ := int_at h9
    exact ⟨_, s0, s1, a7, a8, a9, rfl, ⟨d2, d3, d4, d5, d6, d10, d11, d12, d13, rfl⟩, r0, r1, r7, r8, r9⟩
theorem u8_of {n : Int} (h : (Lit.int .u8 n).wf = true) : ∃ c : UInt8, n = (c.toNat : Int) := by
  have := u8_range h
  refine ⟨UInt8.ofNat n.toNat, ?_⟩
  rw [UInt8.toNat_ofNat']
  omega
end
end Go.Proofs.Ytjnaooiklcbemaa.Opn
