/-
  More words for memory, with no program in sight. No conditions.
-/
import Derived.Test.YthpmngdpgniehaaMem
namespace Go.Proofs.Ythpmngdpgniehaa.Mem
open Go Go.RowKit
theorem run_loadRow_at {P : Program} {w : World} {b off n : Nat} {t : TypeId} {cs : Array Value} {fs : Array Field} (h : ∀ j v, cs[j]? = some v → w.cell? ⟨b, off + j, none⟩ = some v) (hn : cs.size = n) (hu : P.underlying t = some (.struct fs)) (hi : (P.info? t).map (·.size) = some n) :
    (loadRow t (.pointer (some ⟨b, off, none⟩))).run P w = .ok (.agg cs) w := by
  have hl : (loadCells ⟨b, off, none⟩ cs.toList.length).run P w = .ok cs.toList.toArray w :=
    run_loadCells_list (P := P) w ⟨b, off, none⟩ cs.toList (fun j v hv => by
      rw [Addr.add_lit]
      exact h j v (by simpa using hv))
  cases hq : P.info? t with
  | none => simp [hq] at hi
  | some i =>
    have hs : i.size = cs.size := by rw [hn]; simpa [hq] using hi
    have hagg : (isAgg t).run P w = .ok true w := by
      unfold isAgg
      rw [Sem.run_bind, run_underlying hu w]
      rfl
    simp only [Array.length_toList, Array.toArray_toList] at hl
    simp [loadRow, Instr.loadAt, Instr.sureAddr, loadVar, Sem.run_bind, hagg, sizeOf, typeInfo, hq, hs, hl]
end Go.Proofs.Ythpmngdpgniehaa.Mem
