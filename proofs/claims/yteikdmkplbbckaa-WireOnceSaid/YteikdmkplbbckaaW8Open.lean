/-
  Arguments of chapter 8's statements opened: a slice of items, of asks, of byte strings; an item. No conditions.
-/
import Derived.Test.YteikdmkplbbckaaRows
import Derived.Test.YteikdmkplbbckaaOpen
import Derived.Test.YteikdmkplbbckaaW8Items
namespace Go.Proofs.Yteikdmkplbbckaa.Opn
open Go.ChangeShapes Go.WideShapes Go.ChangeAt Go.RowKit Go.Deep Go.Proofs.Yteikdmkplbbckaa.Mem Go.Proofs.Yteikdmkplbbckaa.Wr

theorem item_under : Try.prog.underlying 33 = some (.struct (Try.prog.fieldsOf 33)) := by kernel_rfl
theorem item_one : oneCellFields Try.prog (Try.prog.fieldsOf 33) = true := by kernel_rfl
theorem item_cells : Try.prog.cellsOf 33 = 5 := by kernel_rfl
theorem item_types : (Try.prog.fieldsOf 33).toList.map (·.type) = [3, 3, 30, 9, 31] := by kernel_rfl
theorem item_size : (Try.prog.fieldsOf 33).size = 5 := by
  have := congrArg List.length item_types
  simpa using this
theorem field_at {fs : Array Field} {ts : List TypeId} (h : fs.toList.map (·.type) = ts) {j : Nat} {t : TypeId} (hj : ts[j]? = some t) : ∃ f, fs[j]? = some f ∧ f.type = t := by
  rw [← h, List.getElem?_map] at hj
  cases hq : fs.toList[j]? with
  | none => rw [hq] at hj; cases hj
  | some f =>
    rw [hq] at hj
    injection hj with hj
    exact ⟨f, by simpa using hq, hj⟩
section
variable {H : Type} {enc : TypeId × Value → H} {w : World} {base : Nat} {spare : Nat → Bool} {held : Bool}
/-- five cells that read as an item. -/
theorem item_of {m : Nat} {cs : List Value} (hl : cs.length = 5)
    (h : ∀ (j : Nat) (f : Field), (Try.prog.fieldsOf 33)[j]? = some f → ∃ u y, cs[j]? = some u ∧ DataW.trod enc Try.prog w base spare held m f.type [u] = some y) : ∃ x : It, IsIt w (· < w.heap.size) cs.toArray x := by
  obtain ⟨f0, g0, t0⟩ := field_at item_types (j := 0) (t := 3) rfl
  obtain ⟨f1, g1, t1⟩ := field_at item_types (j := 1) (t := 3) rfl
  obtain ⟨f2, g2, t2⟩ := field_at item_types (j := 2) (t := 30) rfl
  obtain ⟨f3, g3, t3⟩ := field_at item_types (j := 3) (t := 9) rfl
  obtain ⟨f4, g4, t4⟩ := field_at item_types (j := 4) (t := 31) rfl
  obtain ⟨u0, y0, c0, r0⟩ := h 0 f0 g0
  obtain ⟨u1, y1, c1, r1⟩ := h 1 f1 g1
  obtain ⟨u2, y2, c2, r2⟩ := h 2 f2 g2
  obtain ⟨u3, y3, c3, r3⟩ := h 3 f3 g3
  obtain ⟨u4, y4, c4, r4⟩ := h 4 f4 g4
  rw [t0] at r0
  rw [t1] at r1
  rw [t2] at r2
  rw [t3] at r3
  rw [t4] at r4
  obtain ⟨a0, e0, _, _⟩ := DataW.trod_int Try.underlying3 r0
  obtain ⟨a1, e1, _, w1⟩ := DataW.trod_int Try.underlying3 r1
  obtain ⟨a2, e2, _, w2⟩ := DataW.trod_int Try.underlying30 r2
  obtain ⟨s3, e3, _, w3⟩ := DataW.trod_string Try.underlying9 r3
  obtain ⟨A, n, c, zs, e4, hs, hz, hn, hc, hwf, hb⟩ := open_row Try.underlying31 Try.underlying3 cells_int r4
  injection e0 with e0 _
  injection e1 with e1 _
  injection e2 with e2 _
  injection e3 with e3 _
  subst e0 e1 e2 e3 e4
  have hu := u64_range w2
  match cs, hl with
  | [d0, d1, d2, d3, d4], _ =>
    simp only [List.getElem?_cons_zero, List.getElem?_cons_succ, Option.some.injEq] at c0 c1 c2 c3 c4
    subst c0 c1 c2 c3 c4 hz
    refine ⟨⟨a0, a1, a2.toNat, s3, zs⟩, A, c, ?_, hs, fun h0 a ha => hb a h0 ha, i64_range w1, by show a2.toNat < _; omega, fun y hy => i64_range (hwf y hy), by show zs.length ≤ _; omega, w3⟩
    simp
    omega
theorem open_items {r : Reach} {b0 : Nat} {v : Value} {d : DataW H} {p : List MemPlace}
    (hv : Value.okWide Try.prog w r b0 22 v) (h : DataW.Trod enc Try.prog w base spare held 22 v d p) : ∃ (A : Option Addr) (n c : Nat) (xs : List It), v = .slice A n c ∧ xs.length = n ∧ n ≤ 9223372036854775807 ∧ ItSl w (· < w.heap.size) A xs := by
  obtain ⟨fuel, hf⟩ := h
  obtain ⟨a, len, cap, rfl⟩ := okWide_slice Try.underlying22 hv
  obtain ⟨A, n, c, e, hn, hc, hk⟩ := open_structs Try.underlying22 item_under item_one (item_cells.trans item_size.symm) (show DataW.trod enc Try.prog w base spare held fuel 22 [.slice a len cap] = some (d, p) from hf)
  rw [item_size] at hk
  have hx : ∀ k, k < n → ∃ x : It, ∃ b off cs, A = some ⟨b, off, none⟩ ∧ b < w.heap.size ∧ cs.size = 5 ∧ IsIt w (· < w.heap.size) cs x ∧ ∀ j v, cs[j]? = some v → w.cell? ⟨b, off + k * 5 + j, none⟩ = some v := fun k hkn => by
    obtain ⟨b, off, e1, hlt, cs, hl, hcell, m, hf2⟩ := hk k hkn (by decide)
    obtain ⟨x, hx⟩ := item_of hl hf2
    exact ⟨x, b, off, cs.toArray, e1, hlt, by simpa using hl, hx, fun j u hu => hcell j u (by simpa using hu)⟩
  have inh : Inhabited It := ⟨⟨0, 0, 0, ⟨#[]⟩, []⟩⟩
  obtain ⟨X, hX⟩ := Go.Deep.choose_lt hx
  refine ⟨A, n, c, (List.range n).map X, e, by simp, by omega, fun k x hk2 => ?_⟩
  rw [List.getElem?_map] at hk2
  cases hq : (List.range n)[k]? with
  | none => rw [hq] at hk2; cases hk2
  | some i =>
    have hi := List.getElem?_eq_some_iff.1 hq
    obtain ⟨hlt, he⟩ := hi
    rw [List.getElem_range] at he
    subst he
    rw [hq] at hk2
    injection hk2 with hk2
    subst hk2
    exact hX k (by simpa using hlt)
theorem open_item {r : Reach} {b0 : Nat} {v : Value} {d : DataW H} {p : List MemPlace}
    (hv : Value.okWide Try.prog w r b0 33 v) (h : DataW.Trod enc Try.prog w base spare held 33 v d p) : ∃ (cs : Array Value) (x : It), v = .agg cs ∧ IsIt w (· < w.heap.size) cs x := by
  obtain ⟨cs, rfl, hsz⟩ := okWide_struct item_under hv
  rw [item_cells] at hsz
  obtain ⟨fuel, hf⟩ := h
  obtain ⟨ys, n, _, _, _, hlen, hg⟩ := DataW.trod_struct item_under hf
  obtain ⟨x, hx⟩ := item_of (enc := enc) (base := base) (spare := spare) (held := held) (w := w) (m := n) (cs := cs.toList) (by simpa using hsz) (fun j f hj => by
    obtain ⟨ho, hk⟩ := hone_of item_one j f hj
    have hjl : j < (Try.prog.fieldsOf 33).size := (Array.getElem?_eq_some_iff.1 hj).1
    have hj5 : j < cs.toList.length := by have := item_size; simp; omega
    have h2 := hg j f hj
    rw [ho, hk] at h2
    have e2 : ((Value.agg cs).cells.toList.drop j).take 1 = [cs.toList[j]] := by
      show (cs.toList.drop j).take 1 = [cs.toList[j]]
      rw [List.drop_eq_getElem_cons hj5]
      rfl
    rw [e2] at h2
    have hys : ys[j]? = some (ys[j]'(by omega)) := List.getElem?_eq_getElem (by omega)
    exact ⟨_, _, List.getElem?_eq_getElem hj5, h2.trans hys⟩)
  exact ⟨cs, x, rfl, by simpa using hx⟩
theorem u8_of {n : Int} (h : (Lit.int .u8 n).wf = true) : ∃ c : UInt8, n = (c.toNat : Int) := by
  have := u8_range h
  refine ⟨UInt8.ofNat n.toNat, ?_⟩
  rw [toNat_small (by omega)]
  omega
theorem u16_of {n : Int} (h : (Lit.int .u16 n).wf = true) : ∃ m : Nat, n = (m : Int) ∧ m < 65536 := by
  simp only [Lit.wf, IntKind.min, IntKind.max, IntKind.signed, IntKind.bits, Bool.and_eq_true] at h
  have h1 := h.1
  have h2 := h.2
  simp at h1 h2
  exact ⟨n.toNat, by omega, by omega⟩
end
end Go.Proofs.Yteikdmkplbbckaa.Opn
