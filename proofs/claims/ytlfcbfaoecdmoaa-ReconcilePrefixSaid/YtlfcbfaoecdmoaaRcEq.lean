/-
  Two totals compared: '==' is the equality of their numbers. No conditions.
-/
import Derived.Test.YtlfcbfaoecdmoaaRcBase
namespace Go.Proofs.Ytlfcbfaoecdmoaa.Rc
open Go.RowKit Go.Proofs.Ytlfcbfaoecdmoaa.Mem Go.Proofs.Ytlfcbfaoecdmoaa.Eqs
theorem eqFields_ints {P : Program} (w : World) (d : Nat) (X Y : Array Value) (x y : Nat → Int) : ∀ fs : List Field,
    (∀ fld ∈ fs, fld.name ≠ "_" ∧ P.underlying fld.type = some (.int .i64) ∧ (part fld.type X fld.offset).run P w = .ok (.int .i64 (x fld.offset)) w ∧ (part fld.type Y fld.offset).run P w = .ok (.int .i64 (y fld.offset)) w) →
    (Op.eqFields (d + 1) X Y fs).run P w = .ok (fs.all fun fld => x fld.offset == y fld.offset) w
  | [], _ => by simp [Op.eqFields]
  | fld :: fs, h => by
    obtain ⟨h1, h2, h3, h4⟩ := h fld (List.mem_cons_self ..)
    have ih := eqFields_ints w d X Y x y fs (fun f hf => h f (List.mem_cons_of_mem _ hf))
    simp only [Op.eqFields, h1, ne_eq, not_false_eq_true, if_true, Sem.run_bind, h3, h4, Result.andThen_ok, run_equalIn_int w d fld.type .i64 .i64 _ _ h2, List.all_cons]
    cases hx : (x fld.offset == y fld.offset) <;> simp [ih]
theorem fields23 : (Try.prog.fieldsOf 23).toList.map (fun f => (f.name == "_", f.type, f.offset)) = (List.range 17).map (fun i => (false, 3, i)) := by kernel_rfl
theorem tot_part (f : Nat → Int) (w : World) : ∀ i, i < 17 → (part 3 #[.int .i64 (f 0), .int .i64 (f 1), .int .i64 (f 2), .int .i64 (f 3), .int .i64 (f 4), .int .i64 (f 5), .int .i64 (f 6), .int .i64 (f 7), .int .i64 (f 8), .int .i64 (f 9), .int .i64 (f 10), .int .i64 (f 11), .int .i64 (f 12), .int .i64 (f 13), .int .i64 (f 14), .int .i64 (f 15), .int .i64 (f 16)] i).run Try.prog w = .ok (.int .i64 (f i)) w := by
  intro i hi
  match i, hi with
  | 0, _ => show _ = _; kernel_rfl
  | 1, _ => show _ = _; kernel_rfl
  | 2, _ => show _ = _; kernel_rfl
  | 3, _ => show _ = _; kernel_rfl
  | 4, _ => show _ = _; kernel_rfl
  | 5, _ => show _ = _; kernel_rfl
  | 6, _ => show _ = _; kernel_rfl
  | 7, _ => show _ = _; kernel_rfl
  | 8, _ => show _ = _; kernel_rfl
  | 9, _ => show _ = _; kernel_rfl
  | 10, _ => show _ = _; kernel_rfl
  | 11, _ => show _ = _; kernel_rfl
  | 12, _ => show _ = _; kernel_rfl
  | 13, _ => show _ = _; kernel_rfl
  | 14, _ => show _ = _; kernel_rfl
  | 15, _ => show _ = _; kernel_rfl
  | 16, _ => show _ = _; kernel_rfl
  | k + 17, h => exact absurd h (by omega)
theorem run_tot_eql (f g : Nat → Int) (w : World) : (binOp .eql 23 (tot f) (tot g)).run Try.prog w = .ok (.bool (decide (flist f = flist g))) w := by
  have hf : ∀ fld ∈ (Try.prog.fieldsOf 23).toList, fld.name ≠ "_" ∧ fld.type = 3 ∧ fld.offset < 17 := by
    intro fld hm
    have h1 : (fld.name == "_", fld.type, fld.offset) ∈ (Try.prog.fieldsOf 23).toList.map (fun f => (f.name == "_", f.type, f.offset)) := List.mem_map_of_mem hm
    rw [fields23] at h1
    simp only [List.mem_map, List.mem_range, Prod.mk.injEq] at h1
    obtain ⟨i, hi, h2, h3, h4⟩ := h1
    exact ⟨by simpa using h2.symm, h3.symm, by omega⟩
  have he := eqFields_ints (P := Try.prog) w 9998 _ _ f g (Try.prog.fieldsOf 23).toList (fun fld hm => by
    obtain ⟨h1, h2, h3⟩ := hf fld hm
    rw [h2]
    exact ⟨h1, Try.underlying3, tot_part f w _ h3, tot_part g w _ h3⟩)
  have hs := run_equalIn_struct (P := Try.prog) w 9999 23 _ _ (by kernel_rfl) (by kernel_rfl) |>.trans he
  have ho : (Try.prog.fieldsOf 23).toList.map (fun f => f.offset) = List.range 17 := by
    have := congrArg (List.map fun x : Bool × TypeId × Nat => x.2.2) fields23
    simpa [List.map_map, Function.comp_def] using this
  have ha : ((Try.prog.fieldsOf 23).toList.all fun fld => f fld.offset == g fld.offset) = (List.range 17).all fun i => f i == g i := by
    rw [← ho, List.all_map]
    rfl
  have hb : ((List.range 17).all fun i => f i == g i) = decide (flist f = flist g) := by
    rw [Bool.eq_iff_iff, decide_eq_true_iff]
    simp [flist, List.range_succ]
  rw [ha, hb] at hs
  rw [run_eql_struct, hs, Result.andThen_ok]
end Go.Proofs.Ytlfcbfaoecdmoaa.Rc
