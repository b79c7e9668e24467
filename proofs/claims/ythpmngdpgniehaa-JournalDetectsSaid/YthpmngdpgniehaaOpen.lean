/-
  Arguments opened: a slice of bytes, of numbers. No conditions.
-/
import Derived.Test.YthpmngdpgniehaaApp
import Derived.Test.YthpmngdpgniehaaProg
import Derived.ProofKit
import Derived.OpenShut
import Derived.ShutString
import Derived.ChangeOld
import Derived.Deep.Fields
import Derived.Deep.Slices
namespace Go.Proofs.Ythpmngdpgniehaa.Opn
open Go.ChangeShapes Go.WideShapes Go.ChangeAt Go.RowKit Go.Deep Go.Proofs.Ythpmngdpgniehaa.Mem

theorem own : ownKnob Try.prog.godebug = none := by kernel_rfl
theorem laidOut : laidOutB Try.prog = true := by kernel_rfl
theorem cells_u8 : Try.prog.cellsOf 5 = 1 := by kernel_rfl
theorem cells_int : Try.prog.cellsOf 3 = 1 := by kernel_rfl
theorem cell_spot {w : World} {a : Addr} {v : Value} (h : w.cell? a = some v) : a.spot = none := by
  cases hs : a.spot with
  | none => rfl
  | some k =>
    unfold World.cell? at h
    split at h
    · rw [hs] at h
      simp at h
    · cases h
theorem add_eq (a : Addr) (h : a.spot = none) (j : Nat) : a.add j = ⟨a.block, a.off + j, none⟩ := by
  obtain ⟨b, o, s⟩ := a
  simp only at h
  subst h
  exact Addr.add_lit b o j
theorem add_none (a : Addr) : a.add 0 = a := by
  unfold Addr.add
  rw [if_pos rfl]
theorem u8_range {n : Int} (h : (Lit.int .u8 n).wf = true) : 0 ≤ n ∧ n ≤ 255 := by
  simp only [Lit.wf, IntKind.min, IntKind.max, IntKind.signed, IntKind.bits, Bool.and_eq_true] at h
  have h1 := h.1
  have h2 := h.2
  simp at h1 h2
  omega
theorem i64_range {n : Int} (h : (Lit.int .i64 n).wf = true) : -9223372036854775808 ≤ n ∧ n ≤ 9223372036854775807 := by
  simp only [Lit.wf, IntKind.min, IntKind.max, IntKind.signed, IntKind.bits, Bool.and_eq_true, decide_eq_true_eq] at h
  have h1 := h.1
  have h2 := h.2
  simp at h1 h2
  omega
theorem u64_range {n : Int} (h : (Lit.int .u64 n).wf = true) : 0 ≤ n ∧ n ≤ 18446744073709551615 := by
  simp only [Lit.wf, IntKind.min, IntKind.max, IntKind.signed, IntKind.bits, Bool.and_eq_true] at h
  have h1 := h.1
  have h2 := h.2
  simp at h1 h2
  omega
section
variable {H : Type} {enc : TypeId × Value → H} {w : World} {base : Nat} {spare : Nat → Bool} {held : Bool}
/-- a slice of numbers of kind k in memory. -/
theorem open_row {t e : TypeId} {k : IntKind} {fuel : Nat} {v : Value} {x : DataW H × List MemPlace} (ht : Try.prog.underlying t = some (.slice e)) (he : Try.prog.underlying e = some (.int k)) (hc : Try.prog.cellsOf e = 1)
    (h : DataW.trod enc Try.prog w base spare held fuel t [v] = some x) : ∃ (A : Option Addr) (n c : Nat) (zs : List Int), v = .slice A n c ∧ Sl w 1 A n (zs.map (Value.int k)) ∧ zs.length = n ∧ n ≤ c ∧ c ≤ 9223372036854775807 ∧ (∀ z ∈ zs, (Lit.int k z).wf = true) ∧ (∀ a, 0 < n → A = some a → a.block < w.heap.size) := by
  rcases open_ints ht he hc h with ⟨e1, _⟩ | ⟨a, len, cap, zs, e1, _, hl, hm, hz, _, hcell, hwf⟩
  · injection e1 with e1 _
    exact ⟨none, 0, 0, [], e1, Sl.nil_ _ _ _, rfl, Nat.le_refl _, by omega, by simp, fun _ h0 => absurd h0 (by omega)⟩
  · injection e1 with e1 _
    have hlz : len ≤ zs.length := by rw [hz]; split <;> omega
    have hcell2 : ∀ i, i < len → w.cell? (a.add i) = some (.int k (zs.getD i 0)) := fun i hi => hcell i (by omega)
    refine ⟨some a, len, cap, zs.take len, e1, ⟨by simp; omega, fun h0 => ?_⟩, by simp; omega, hl, by unfold maxLen at hm; omega, fun z hz2 => hwf z (List.mem_of_mem_take hz2), fun a' h0 e2 => ?_⟩
    · have h1 := hcell2 0 h0
      rw [add_none] at h1
      have hs := cell_spot h1
      refine ⟨a.block, a.off, by rw [show a = ⟨a.block, a.off, none⟩ from by obtain ⟨b, o, s⟩ := a; simp only at hs; subst hs; rfl], fun j u hu => ?_⟩
      rw [List.getElem?_map] at hu
      have hj : j < len := by
        cases hq : (zs.take len)[j]? with
        | none => rw [hq] at hu; cases hu
        | some z =>
          have := (List.getElem?_eq_some_iff.1 hq).1
          rw [List.length_take] at this
          omega
      have h2 := hcell2 j hj
      rw [add_eq a hs] at h2
      rw [h2, ← hu, List.getElem?_take, if_pos hj]
      simp [List.getD, show j < zs.length from by omega]
    · injection e2 with e2
      subst e2
      have h1 := hcell2 0 h0
      have h3 := World.block_lt_of_cell? w _ h1
      rw [add_none] at h3
      exact h3
theorem byts_of {zs : List Int} (h : ∀ z ∈ zs, (Lit.int .u8 z).wf = true) : zs.map (Value.int .u8) = byts (zs.map fun z => UInt8.ofNat z.toNat) := by
  unfold byts
  rw [List.map_map]
  apply List.map_congr_left
  intro z hz
  have := u8_range (h z hz)
  show Value.int .u8 z = Value.int .u8 ((UInt8.ofNat z.toNat).toNat : Int)
  rw [UInt8.toNat_ofNat']
  congr 1
  have : z.toNat % 2 ^ 8 = z.toNat := Nat.mod_eq_of_lt (by omega)
  rw [this]
  omega
theorem open_bytes_at {t : TypeId} {fuel : Nat} {v : Value} {x : DataW H × List MemPlace} (ht : Try.prog.underlying t = some (.slice 5))
    (h : DataW.trod enc Try.prog w base spare held fuel t [v] = some x) : ∃ (A : Option Addr) (n c : Nat) (l : List UInt8), v = .slice A n c ∧ Sl w 1 A n (byts l) ∧ l.length = n ∧ n ≤ c ∧ c ≤ 9223372036854775807 ∧ (∀ a, 0 < n → A = some a → a.block < w.heap.size) := by
  obtain ⟨A, n, c, zs, e, hs, hl, h1, h2, hwf, hb⟩ := open_row ht Try.underlying5 cells_u8 h
  rw [byts_of hwf] at hs
  exact ⟨A, n, c, _, e, hs, by simpa using hl, h1, h2, hb⟩
set_option maxRecDepth 100000 in
theorem open_bytes {r : Reach} {b0 : Nat} {v : Value} {d : DataW H} {p : List MemPlace}
    (hv : Value.okWide Try.prog w r b0 40 v) (h : DataW.Trod enc Try.prog w base spare held 40 v d p) : ∃ (A : Option Addr) (n c : Nat) (l : List UInt8), v = .slice A n c ∧ Sl w 1 A n (byts l) ∧ l.length = n ∧ n ≤ c ∧ c ≤ 9223372036854775807 ∧ (∀ a, 0 < n → A = some a → a.block < w.heap.size) := by
  obtain ⟨fuel, hf⟩ := h
  obtain ⟨a, len, cap, rfl⟩ := okWide_slice Try.underlying40 hv
  exact open_bytes_at Try.underlying40 (show DataW.trod enc Try.prog w base spare held fuel 40 [.slice a len cap] = some (d, p) from hf)
set_option maxRecDepth 100000 in
/-- a slice of structs of one-cell fields: what lies at each element and field. -/
theorem open_structs {t e : TypeId} {fs : Array Field} {fuel : Nat} {v : Value} {x : DataW H × List MemPlace} (ht : Try.prog.underlying t = some (.slice e)) (he : Try.prog.underlying e = some (.struct fs)) (hone : oneCellFields Try.prog fs = true) (hC : Try.prog.cellsOf e = fs.size)
    (h : DataW.trod enc Try.prog w base spare held fuel t [v] = some x) : ∃ A n c, v = .slice A n c ∧ n ≤ c ∧ c ≤ 9223372036854775807 ∧ ∀ k, k < n → 0 < fs.size → ∃ b off, A = some ⟨b, off, none⟩ ∧ b < w.heap.size ∧ ∃ cs : List Value, cs.length = fs.size ∧ (∀ j u, cs[j]? = some u → w.cell? ⟨b, off + k * fs.size + j, none⟩ = some u) ∧
      ∃ m, ∀ (j : Nat) (f : Field), fs[j]? = some f → ∃ u y, cs[j]? = some u ∧ DataW.trod enc Try.prog w base spare held m f.type [u] = some y := by
  rcases open_slice ht h with ⟨e1, _⟩ | ⟨a, len, cap, m, n, D, Pl, e1, _, hl, hm, hmm, _, hi⟩
  · injection e1 with e1 _
    exact ⟨none, 0, 0, e1, Nat.le_refl _, by omega, fun k hk => absurd hk (by omega)⟩
  · injection e1 with e1 _
    refine ⟨some a, len, cap, e1, hl, by unfold maxLen at hm; omega, fun k hk h0 => ?_⟩
    obtain ⟨cs', hc, ht'⟩ := hi k (by rw [hmm]; split <;> omega)
    rw [hC] at hc
    obtain ⟨ys, n', _, _, _, hyl, hf⟩ := DataW.trod_struct he ht'
    obtain ⟨_, hcl, hat⟩ := World.cells?_some hc
    obtain ⟨cs0, hc0, _⟩ := hi 0 (by rw [hmm]; split <;> omega)
    rw [hC] at hc0
    obtain ⟨_, hcl0, hat0⟩ := World.cells?_some hc0
    have h1 := hat0 0 h0
    rw [List.getElem?_eq_getElem (by omega), Nat.zero_mul, add_none, add_none] at h1
    have hs : a.spot = none := cell_spot h1
    have hlt := World.block_lt_of_cell? w _ h1
    have haa : ∀ j, (a.add (k * fs.size)).add j = ⟨a.block, a.off + k * fs.size + j, none⟩ := fun j => by
      rw [add_eq a hs, Addr.add_lit]
    refine ⟨a.block, a.off, by rw [show a = ⟨a.block, a.off, none⟩ from by obtain ⟨b, o, s⟩ := a; simp only at hs; subst hs; rfl], hlt, cs', hcl, fun j u hu => ?_, n', fun j f hj => ?_⟩
    · have hj : j < fs.size := by have := (List.getElem?_eq_some_iff.1 hu).1; omega
      have := hat j hj
      rw [haa] at this
      rw [this, hu]
    · obtain ⟨ho, hk1⟩ := hone_of hone j f hj
      have hjl : j < fs.size := (Array.getElem?_eq_some_iff.1 hj).1
      have h2 := hf j f hj
      rw [ho, hk1] at h2
      have hone' : (cs'.drop j).take 1 = [cs'[j]'(by omega)] := by
        rw [List.drop_eq_getElem_cons (by omega)]
        rfl
      rw [hone'] at h2
      have hys : ys[j]? = some (ys[j]'(by omega)) := List.getElem?_eq_getElem (by omega)
      exact ⟨_, _, List.getElem?_eq_getElem (by omega), h2.trans hys⟩
end
end Go.Proofs.Ythpmngdpgniehaa.Opn
