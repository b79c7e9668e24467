/-
  Arguments opened: a record, a slice of records. No conditions.
-/
import Derived.Test.YthpmngdpgniehaaRows
import Derived.Test.YthpmngdpgniehaaOpen
import Derived.Test.YthpmngdpgniehaaJrLoc
namespace Go.Proofs.Ythpmngdpgniehaa.Opn
open Go.ChangeShapes Go.WideShapes Go.ChangeAt Go.RowKit Go.Deep Go.Proofs.Ythpmngdpgniehaa.Mem Go.Proofs.Ythpmngdpgniehaa.Jr

theorem rec_under : Try.prog.underlying 27 = some (.struct (Try.prog.fieldsOf 27)) := by kernel_rfl
theorem rec_cells : Try.prog.cellsOf 27 = 12 := by kernel_rfl
theorem rec_parts : (Try.prog.fieldsOf 27).toList.map (fun f => (f.type, f.offset, Try.prog.cellsOf f.type)) = [(25, 0, 10), (9, 10, 1), (22, 11, 1)] := by kernel_rfl
theorem cmd_under : Try.prog.underlying 25 = some (.struct (Try.prog.fieldsOf 25)) := by kernel_rfl
theorem cmd_parts : (Try.prog.fieldsOf 25).toList.map (fun f => (f.type, f.offset, Try.prog.cellsOf f.type)) = [(3, 0, 1), (3, 1, 1), (3, 2, 1), (3, 3, 1), (3, 4, 1), (9, 5, 1), (9, 6, 1), (22, 7, 1), (23, 8, 1), (23, 9, 1)] := by kernel_rfl
/-- the numbers of a record fit their kinds. -/
structure RecFit (r : Rec) : Prop where
  k0 : -9223372036854775808 ≤ r.k0 ∧ r.k0 ≤ 9223372036854775807
  k1 : -9223372036854775808 ≤ r.k1 ∧ r.k1 ≤ 9223372036854775807
  k2 : -9223372036854775808 ≤ r.k2 ∧ r.k2 ≤ 9223372036854775807
  k3 : -9223372036854775808 ≤ r.k3 ∧ r.k3 ≤ 9223372036854775807
  k4 : -9223372036854775808 ≤ r.k4 ∧ r.k4 ≤ 9223372036854775807
  name : r.name.size ≤ 9223372036854775807
  text : r.text.size ≤ 9223372036854775807
  nums : ∀ x ∈ r.nums, -9223372036854775808 ≤ x ∧ x ≤ 9223372036854775807
  key : 0 ≤ r.key ∧ r.key ≤ 18446744073709551615
  nonce : 0 ≤ r.nonce ∧ r.nonce ≤ 18446744073709551615
  ticket : r.ticket.size ≤ 9223372036854775807
  amts : ∀ x ∈ r.amts, -9223372036854775808 ≤ x ∧ x ≤ 9223372036854775807
section
variable {H : Type} {enc : TypeId × Value → H} {w : World} {base : Nat} {spare : Nat → Bool} {held : Bool}
/-- a field of a struct. -/
theorem part_at {t : TypeId} {fs : Array Field} {ts : List (TypeId × Nat × Nat)} {fuel : Nat} {cs : List Value} {x : DataW H × List MemPlace} (ht : Try.prog.underlying t = some (.struct fs)) (hts : fs.toList.map (fun f => (f.type, f.offset, Try.prog.cellsOf f.type)) = ts)
    (h : DataW.trod enc Try.prog w base spare held fuel t cs = some x) {j o c : Nat} {ty : TypeId} (hj : ts[j]? = some (ty, o, c)) : ∃ n y, DataW.trod enc Try.prog w base spare held n ty ((cs.drop o).take c) = some y := by
  obtain ⟨ys, n, _, _, _, hyl, hf⟩ := DataW.trod_struct ht h
  rw [← hts, List.getElem?_map] at hj
  cases hq : fs.toList[j]? with
  | none => rw [hq] at hj; cases hj
  | some f =>
    rw [hq] at hj
    injection hj with hj
    injection hj with h1 h2
    injection h2 with h2 h3
    have hjf : fs[j]? = some f := by simpa using hq
    have h4 := hf j f hjf
    rw [h1, h2] at h4
    rw [h1] at h3
    rw [h3] at h4
    have hjl : j < ys.length := by have := (Array.getElem?_eq_some_iff.1 hjf).1; omega
    exact ⟨n, _, h4.trans (List.getElem?_eq_getElem hjl)⟩
theorem int_at {n : Nat} {v : Value} {y : DataW H × List MemPlace} (h : DataW.trod enc Try.prog w base spare held n 3 [v] = some y) : ∃ a, v = .int .i64 a ∧ -9223372036854775808 ≤ a ∧ a ≤ 9223372036854775807 := by
  obtain ⟨a, e, _, wf⟩ := DataW.trod_int Try.underlying3 h
  injection e with e _
  exact ⟨a, e, i64_range wf⟩
theorem u64_at {n : Nat} {v : Value} {y : DataW H × List MemPlace} (h : DataW.trod enc Try.prog w base spare held n 23 [v] = some y) : ∃ a, v = .int .u64 a ∧ 0 ≤ a ∧ a ≤ 18446744073709551615 := by
  obtain ⟨a, e, _, wf⟩ := DataW.trod_int Try.underlying23 h
  injection e with e _
  exact ⟨a, e, u64_range wf⟩
theorem str_at {n : Nat} {v : Value} {y : DataW H × List MemPlace} (h : DataW.trod enc Try.prog w base spare held n 9 [v] = some y) : ∃ s : ByteArray, v = .string s ∧ s.size ≤ 9223372036854775807 := by
  obtain ⟨s, e, _, wf⟩ := DataW.trod_string Try.underlying9 h
  injection e with e _
  exact ⟨s, e, wf⟩
set_option maxRecDepth 100000 in
/-- twelve cells that read as a record. -/
theorem rec_of {fuel : Nat} {cs : List Value} {x : DataW H × List MemPlace} (hl : cs.length = 12) (h : DataW.trod enc Try.prog w base spare held fuel 27 cs = some x) : ∃ r : Rec, IsRec w cs.toArray r ∧ RecFit r := by
  match cs, hl with
  | [d0, d1, d2, d3, d4, d5, d6, d7, d8, d9, d10, d11], _ =>
    obtain ⟨_, _, hc⟩ := part_at rec_under rec_parts h (j := 0) rfl
    obtain ⟨_, _, h10⟩ := part_at rec_under rec_parts h (j := 1) rfl
    obtain ⟨_, _, h11⟩ := part_at rec_under rec_parts h (j := 2) rfl
    obtain ⟨_, _, h0⟩ := part_at cmd_under cmd_parts hc (j := 0) rfl
    obtain ⟨_, _, h1⟩ := part_at cmd_under cmd_parts hc (j := 1) rfl
    obtain ⟨_, _, h2⟩ := part_at cmd_under cmd_parts hc (j := 2) rfl
    obtain ⟨_, _, h3⟩ := part_at cmd_under cmd_parts hc (j := 3) rfl
    obtain ⟨_, _, h4⟩ := part_at cmd_under cmd_parts hc (j := 4) rfl
    obtain ⟨_, _, h5⟩ := part_at cmd_under cmd_parts hc (j := 5) rfl
    obtain ⟨_, _, h6⟩ := part_at cmd_under cmd_parts hc (j := 6) rfl
    obtain ⟨_, _, h7⟩ := part_at cmd_under cmd_parts hc (j := 7) rfl
    obtain ⟨_, _, h8⟩ := part_at cmd_under cmd_parts hc (j := 8) rfl
    obtain ⟨_, _, h9⟩ := part_at cmd_under cmd_parts hc (j := 9) rfl
    simp only [List.drop_succ_cons, List.drop_zero, List.take_succ_cons, List.take_zero] at h0 h1 h2 h3 h4 h5 h6 h7 h8 h9 h10 h11
    obtain ⟨a0, rfl, r0⟩ := int_at h0
    obtain ⟨a1, rfl, r1⟩ := int_at h1
    obtain ⟨a2, rfl, r2⟩ := int_at h2
    obtain ⟨a3, rfl, r3⟩ := int_at h3
    obtain ⟨a4, rfl, r4⟩ := int_at h4
    obtain ⟨s5, rfl, r5⟩ := str_at h5
    obtain ⟨s6, rfl, r6⟩ := str_at h6
    obtain ⟨A7, n7, c7, z7, rfl, s7, l7, hn7, hc7, wf7, b7⟩ := open_row Try.underlying22 Try.underlying3 cells_int h7
    obtain ⟨a8, rfl, r8⟩ := u64_at h8
    obtain ⟨a9, rfl, r9⟩ := u64_at h9
    obtain ⟨s10, rfl, r10⟩ := str_at h10
    obtain ⟨A11, n11, c11, z11, rfl, s11, l11, hn11, hc11, wf11, b11⟩ := open_row Try.underlying22 Try.underlying3 cells_int h11
    subst l7 l11
    exact ⟨⟨a0, a1, a2, a3, a4, s5, s6, z7, a8, a9, s10, z11⟩, ⟨A7, c7, A11, c11, rfl, s7, s11, by show z7.length ≤ _; omega, by show z11.length ≤ _; omega⟩,
      ⟨r0, r1, r2, r3, r4, r5, r6, fun x hx => i64_range (wf7 x hx), r8, r9, r10, fun x hx => i64_range (wf11 x hx)⟩⟩
set_option maxRecDepth 100000 in
theorem open_recs {r : Reach} {b0 : Nat} {v : Value} {d : DataW H} {p : List MemPlace}
    (hv : Value.okWide Try.prog w r b0 29 v) (h : DataW.Trod enc Try.prog w base spare held 29 v d p) : ∃ (A : Option Addr) (n c : Nat) (rs : List Rec), v = .slice A n c ∧ rs.length = n ∧ n ≤ c ∧ c ≤ 9223372036854775807 ∧ RecSl w A rs ∧ ∀ r ∈ rs, RecFit r := by
  obtain ⟨fuel, hf⟩ := h
  obtain ⟨a0, len0, cap0, rfl⟩ := okWide_slice Try.underlying29 hv
  rcases open_slice Try.underlying29 (show DataW.trod enc Try.prog w base spare held fuel 29 [.slice a0 len0 cap0] = some (d, p) from hf) with ⟨e1, _⟩ | ⟨a, len, cap, m, k0, D, Pl, e1, _, hl, hm, hmm, _, hi⟩
  · injection e1 with e1 _
    exact ⟨none, 0, 0, [], e1, rfl, by omega, by omega, (fun k x hk => by simp at hk), (fun x hx => by cases hx)⟩
  · injection e1 with e1 _
    rw [rec_cells] at hi
    have hx : ∀ k, k < len → ∃ x : Rec, (∃ b off cs, some a = some ⟨b, off, none⟩ ∧ cs.size = 12 ∧ IsRec w cs x ∧ ∀ j v, cs[j]? = some v → w.cell? ⟨b, off + k * 12 + j, none⟩ = some v) ∧ RecFit x := fun k hk => by
      obtain ⟨cs', hc, ht'⟩ := hi k (by rw [hmm]; split <;> omega)
      obtain ⟨cs0, hc0, _⟩ := hi 0 (by rw [hmm]; split <;> omega)
      obtain ⟨_, hcl, hat⟩ := World.cells?_some hc
      obtain ⟨_, hcl0, hat0⟩ := World.cells?_some hc0
      have h1 := hat0 0 (by omega)
      rw [List.getElem?_eq_getElem (by omega), Nat.zero_mul, add_none, add_none] at h1
      have hs : a.spot = none := cell_spot h1
      have haa : ∀ j, (a.add (k * 12)).add j = ⟨a.block, a.off + k * 12 + j, none⟩ := fun j => by
        rw [add_eq a hs, Addr.add_lit]
      obtain ⟨r, hr, hfit⟩ := rec_of hcl ht'
      refine ⟨r, ⟨a.block, a.off, cs'.toArray, by rw [show a = ⟨a.block, a.off, none⟩ from by obtain ⟨b, o, s⟩ := a; simp only at hs; subst hs; rfl], by simpa using hcl, hr, fun j u hu => ?_⟩, hfit⟩
      have hu2 : cs'[j]? = some u := by simpa using hu
      have hj : j < 12 := by have := (List.getElem?_eq_some_iff.1 hu2).1; omega
      have := hat j hj
      rw [haa] at this
      rw [this, hu2]
    have inh : Inhabited Rec := ⟨⟨0, 0, 0, 0, 0, ⟨#[]⟩, ⟨#[]⟩, [], 0, 0, ⟨#[]⟩, []⟩⟩
    obtain ⟨X, hX⟩ := Go.Deep.choose_lt hx
    refine ⟨some a, len, cap, (List.range len).map X, e1, by simp, hl, by unfold maxLen at hm; omega, fun k x hk2 => ?_, fun x hx2 => ?_⟩
    · rw [List.getElem?_map] at hk2
      cases hq : (List.range len)[k]? with
      | none => rw [hq] at hk2; cases hk2
      | some i =>
        obtain ⟨hlt, he⟩ := List.getElem?_eq_some_iff.1 hq
        rw [List.getElem_range] at he
        subst he
        rw [hq] at hk2
        injection hk2 with hk2
        subst hk2
        exact (hX k (by simpa using hlt)).1
    · rw [List.mem_map] at hx2
      obtain ⟨i, hi2, rfl⟩ := hx2
      exact (hX i (List.mem_range.1 hi2)).2
set_option maxRecDepth 100000 in
theorem open_rec {r : Reach} {b0 : Nat} {v : Value} {d : DataW H} {p : List MemPlace}
    (hv : Value.okWide Try.prog w r b0 27 v) (h : DataW.Trod enc Try.prog w base spare held 27 v d p) : ∃ (cs : Array Value) (x : Rec), v = .agg cs ∧ IsRec w cs x ∧ RecFit x := by
  obtain ⟨cs, rfl, hsz⟩ := okWide_struct rec_under hv
  rw [rec_cells] at hsz
  obtain ⟨fuel, hf⟩ := h
  obtain ⟨x, hx, hfit⟩ := rec_of (cs := cs.toList) (by simpa using hsz) hf
  exact ⟨cs, x, rfl, by simpa using hx, hfit⟩
end
end Go.Proofs.Ythpmngdpgniehaa.Opn
