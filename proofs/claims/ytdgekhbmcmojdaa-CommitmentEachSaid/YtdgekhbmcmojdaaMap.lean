/-
  A map from int to uint64 that reads as a list of pairs (no key twice), with no program in sight: made, looked up, stored into, counted. No conditions.
-/
import Derived.Test.YtdgekhbmcmojdaaMem
import Derived.Maps.OwnSet
namespace Go.Proofs.Ytdgekhbmcmojdaa.Mp
open Go Go.RowKit Go.Maps Go.WideShapes Go.ChangeMaps Go.Proofs.Ytdgekhbmcmojdaa.Mem

def findK (l : List (Int × Int)) (k : Int) : Option Int := match l with
  | [] => none
  | p :: l => if p.1 = k then some p.2 else findK l k
theorem findK_cons (p : Int × Int) (l : List (Int × Int)) (k : Int) : findK (p :: l) k = if p.1 = k then some p.2 else findK l k := by rw [findK]
theorem findK_snoc (l : List (Int × Int)) (k v k' : Int) (h : findK l k = none) : findK (l ++ [(k, v)]) k' = if k = k' then some v else findK l k' := by
  induction l with
  | nil => simp [findK]
  | cons p l ih =>
    rw [findK_cons] at h
    by_cases e : p.1 = k
    · rw [if_pos e] at h; cases h
    · rw [if_neg e] at h
      rw [List.cons_append, findK_cons, findK_cons, ih h]
      by_cases e2 : p.1 = k'
      · rw [if_pos e2, if_pos e2, if_neg (fun e3 => e (by rw [e2, e3]))]
      · rw [if_neg e2, if_neg e2]

/-- block b is a map from int to uint64 that holds just what l holds. -/
structure MapL (P : Program) (K E : TypeId) (w : World) (b : Nat) (l : List (Int × Int)) : Prop where
  ex : ∃ D : DataW Unit, w.ownsMap P K (plainElem P E) b l.length D ∧ size D = l.length ∧ (∀ k, has D (.int .i64 k) = (findK l k).isSome) ∧ ∀ k z, D.atKey (.int .i64 k) z = match findK l k with | some v => .lit (.int .u64 v) | none => z
section
variable {P : Program} {K E T : TypeId} {w w' : World} {b : Nat} {l : List (Int × Int)}
theorem MapL.made (w : World) : MapL P K E (w.alloc (.map #[] 0)) w.heap.size [] :=
  ⟨.map [], World.ownsMap_made _ _ _ _, rfl, fun _ => rfl, fun _ _ => rfl⟩
theorem MapL.lt (h : MapL P K E w b l) : b < w.heap.size := by
  obtain ⟨D, h1, _⟩ := h.ex
  exact h1.lt
theorem MapL.same (h : MapL P K E w b l) (hb : w'.heap[b]? = w.heap[b]?) : MapL P K E w' b l := by
  obtain ⟨D, ⟨es, clock, h0, r⟩, h2⟩ := h.ex
  exact ⟨D, ⟨es, clock, hb.trans h0, r⟩, h2⟩
theorem MapL.frm {F : Nat → Prop} (h : MapL P K E w b l) (hf : Frm F w w') (hn : ¬ F b) : MapL P K E w' b l := h.same (hf.block b h.lt hn)
theorem MapL.below (h : MapL P K E w b l) (hb : Below w.heap.size w w') : MapL P K E w' b l := h.same (hb.block b h.lt)
theorem MapL.far (h : MapL P K E w b l) {p : Addr} (hp : b ≠ p.block) (u : Value) : MapL P K E (w.setCell p u) b l := h.same (Below.heap_setCell w p u b hp)
theorem MapL.apart (h : MapL P K E w b l) {g : Nat} {t : TypeId} {cs : Array Value} (hg : Blk w g t cs) : b ≠ g := by
  rintro rfl
  obtain ⟨D, ⟨es, clock, h0, r⟩, h2⟩ := h.ex
  unfold Blk at hg
  rw [hg] at h0
  injection h0 with h0
  cases h0
variable (hK : P.underlying K = some (.int .i64)) (hE : P.underlying E = some (.int .u64)) (hT : P.underlying T = some (.map K E)) (hz : ∀ W, (zeroValue E).run P W = .ok (.int .u64 0) W)
include hT in
theorem MapL.len (h : MapL P K E w b l) (ty : TypeId) : (Builtin.len_ #[T] ty #[.map (some b)]).run P w = .ok (.int .i64 (l.length : Int)) w := by
  obtain ⟨D, h1, h2, _⟩ := h.ex
  rw [h1.len hT ty, h2]
include hK hE hT hz in
theorem MapL.look (h : MapL P K E w b l) {k : Int} (hk : (Lit.int .i64 k).wf = true) :
    (Instr.lookup T (.map (some b)) (.int .i64 k) true).run P w = .ok (.tuple #[.int .u64 ((findK l k).getD 0), .bool (findK l k).isSome]) w := by
  obtain ⟨D, h1, h2, h3, h4⟩ := h.ex
  have hkey : keyOf P K (.int .i64 k) = some (.int .i64 k) := keyOf_int_mk hK hk
  obtain ⟨v, ps, hrun, hv⟩ := h1.look_ok (int_keyed hK) hT (hz w) (plainElem_int hE (by decide)) hkey
  obtain ⟨c, rfl, hc, _⟩ := plainElem_int_inv hE hv
  have hc1 : D.atKey (.int .i64 k) (.lit (.int .u64 0)) = .lit (.int .u64 c) := congrArg Prod.fst hc
  rw [hrun, h3]
  have : c = (findK l k).getD 0 := by
    have h5 := h4 k (.lit (.int .u64 0))
    rw [hc1] at h5
    cases hf : findK l k with
    | none =>
      rw [hf] at h5
      injection h5 with h5
      injection h5 with _ h5
    | some x =>
      rw [hf] at h5
      injection h5 with h5
      injection h5 with _ h5
  rw [this]
include hK hE hT in
theorem MapL.store (h : MapL P K E w b l) {k v : Int} (hk : (Lit.int .i64 k).wf = true) (hv : (Lit.int .u64 v).wf = true) (hn : findK l k = none) (hl : l.length < maxLen) :
    ∃ w', (Instr.mapUpdate T (.map (some b)) (.int .i64 k) (.int .u64 v)).run P w = .ok () w' ∧ MapL P K E w' b (l ++ [(k, v)]) ∧ w.grownBy w' (some b) := by
  obtain ⟨D, h1, h2, h3, h4⟩ := h.ex
  have hkey : keyOf P K (.int .i64 k) = some (.int .i64 k) := keyOf_int_mk hK hk
  obtain ⟨w', hrun, h5, h6⟩ := h1.update (int_keyed hK) hT hl hkey (plainElem_int hE hv)
  have hl2 : (l ++ [(k, v)]).length = l.length + 1 := by simp
  have hD := h1.isMap
  have hTi := h1.tidy (int_keyed hK)
  have hkl : WideAt.IsKeyLit (.int .i64 k) := trivial
  refine ⟨w', hrun, ⟨_, by rw [hl2]; exact h5, ?_, fun k' => ?_, fun k' z => ?_⟩, h6⟩
  · rw [size_put hTi, h3, hn, h2, hl2]
    rfl
  · rw [findK_snoc _ _ _ _ hn]
    by_cases e : k = k'
    · subst e
      rw [has_put_same hD hkl, if_pos rfl]
      rfl
    · rw [has_put_other (fun e2 => e (by injection e2 with _ e2; exact e2.symm)), if_neg e, h3]
  · rw [findK_snoc _ _ _ _ hn]
    by_cases e : k = k'
    · subst e
      rw [atKey_put_same hD hkl, if_pos rfl]
    · rw [atKey_put_other (fun e2 => e (by injection e2 with _ e2; exact e2.symm)), if_neg e, h4]
end
end Go.Proofs.Ytdgekhbmcmojdaa.Mp
