/-
  An argument that is totals, opened: its cells are seventeen numbers. No conditions.
-/
import Derived.Test.YtlfcbfaoecdmoaaRows
import Derived.Test.YtlfcbfaoecdmoaaRcLaws
import Derived.ProofKit
import Derived.OpenShut
import Derived.ShutString
import Derived.ChangeOld
import Derived.Deep.Fields
namespace Go.Proofs.Ytlfcbfaoecdmoaa.Rc
open Go.ChangeShapes Go.WideShapes Go.ChangeAt Go.RowKit Go.Proofs.Ytlfcbfaoecdmoaa.Mem

theorem own : ownKnob Try.prog.godebug = none := by kernel_rfl
theorem laidOut : laidOutB Try.prog = true := by kernel_rfl
theorem tot_one : Go.Deep.oneCellFields Try.prog (Try.prog.fieldsOf 23) = true := by kernel_rfl
theorem tot_under : Try.prog.underlying 23 = some (.struct (Try.prog.fieldsOf 23)) := by kernel_rfl
theorem tot_cells : Try.prog.cellsOf 23 = 17 := by kernel_rfl
theorem tot_types : (Try.prog.fieldsOf 23).toList.map (·.type) = List.replicate 17 3 := by kernel_rfl
set_option maxRecDepth 100000 in
theorem open_tot {H : Type} {enc : TypeId × Value → H} {w : World} {base b0 : Nat} {spare : Nat → Bool} {held : Bool} {r : Reach} {v : Value} {d : DataW H} {p : List MemPlace}
    (hv : Value.okWide Try.prog w r b0 23 v) (h : DataW.Trod enc Try.prog w base spare held 23 v d p) : ∃ cs xs, v = .agg cs ∧ Tot cs xs := by
  obtain ⟨cs, rfl, hsz⟩ := okWide_struct tot_under hv
  rw [tot_cells] at hsz
  obtain ⟨fuel, hf⟩ := h
  obtain ⟨ys, n, _, _, _, hlen, hg⟩ := DataW.trod_struct tot_under hf
  have hfs : (Try.prog.fieldsOf 23).size = 17 := by
    have := congrArg List.length tot_types
    simpa using this
  have hcell : ∀ j, j < 17 → cs[j]? = some (.int .i64 (intOf (cs.getD j undef))) := by
    intro j hj
    have hjf : j < (Try.prog.fieldsOf 23).size := by omega
    have hfj := Array.getElem?_eq_getElem hjf
    obtain ⟨ho, hk⟩ := Go.Deep.hone_of tot_one j _ hfj
    have hty : ((Try.prog.fieldsOf 23)[j]).type = 3 := by
      have h1 : ((Try.prog.fieldsOf 23).toList.map (·.type))[j]? = (List.replicate 17 3)[j]? := by rw [tot_types]
      rw [List.getElem?_map, List.getElem?_replicate, if_pos hj, Array.getElem?_toList, hfj] at h1
      simpa using h1
    have h2 := hg j _ hfj
    have hys : ys[j]? = some (ys[j]'(by omega)) := List.getElem?_eq_getElem (by omega)
    rw [ho, hk, hty, hys] at h2
    obtain ⟨a, e, _, _⟩ := DataW.trod_int Try.underlying3 h2
    have hjc : j < cs.size := by omega
    have e2 : ((Value.agg cs).cells.toList.drop j).take 1 = [cs[j]] := by
      show (cs.toList.drop j).take 1 = [cs[j]]
      rw [List.drop_eq_getElem_cons (by simpa using hjc)]
      rfl
    rw [e2] at e
    injection e with e _
    rw [Array.getElem?_eq_getElem hjc, e]
    simp [Array.getD, hjc, e, intOf]
  refine ⟨cs, _, rfl, fun i => intOf (cs.getD i undef), ?_, rfl⟩
  congr 1
  apply Array.ext_getElem?
  intro j
  by_cases hj : j < 17
  · rw [hcell j hj]
    match j, hj with
    | 0, _ => rfl
    | 1, _ => rfl
    | 2, _ => rfl
    | 3, _ => rfl
    | 4, _ => rfl
    | 5, _ => rfl
    | 6, _ => rfl
    | 7, _ => rfl
    | 8, _ => rfl
    | 9, _ => rfl
    | 10, _ => rfl
    | 11, _ => rfl
    | 12, _ => rfl
    | 13, _ => rfl
    | 14, _ => rfl
    | 15, _ => rfl
    | 16, _ => rfl
    | k + 17, h => exact absurd h (by omega)
  · rw [Array.getElem?_eq_none (by omega), Array.getElem?_eq_none (by simp; omega)]
end Go.Proofs.Ytlfcbfaoecdmoaa.Rc
