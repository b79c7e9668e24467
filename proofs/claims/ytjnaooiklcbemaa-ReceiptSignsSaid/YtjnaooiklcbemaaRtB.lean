/-
  Receipts as structs: '==' of two is the equality of their fields; a whole receipt loaded, stored, handed back. No conditions.
-/
import Derived.Test.YtjnaooiklcbemaaRtW
import Derived.Test.YtjnaooiklcbemaaMem2
import Derived.Test.YtjnaooiklcbemaaEqs
namespace Go.Proofs.Ytjnaooiklcbemaa.Rt
open Go.RowKit Go.Proofs.Ytjnaooiklcbemaa.Mem Go.Proofs.Ytjnaooiklcbemaa.Wr Go.Proofs.Ytjnaooiklcbemaa.Dg Go.Proofs.Ytjnaooiklcbemaa.Eqs

theorem eqFields_all {P : Program} (w : World) (d : Nat) (X Y : Array Value) (rs : Nat → Bool) : ∀ fs : List Field,
    (∀ fld ∈ fs, fld.name ≠ "_" ∧ ∃ a b, (part fld.type X fld.offset).run P w = .ok a w ∧ (part fld.type Y fld.offset).run P w = .ok b w ∧ (Op.equalIn (d + 1) fld.type a b).run P w = .ok (rs fld.offset) w) →
    (Op.eqFields (d + 1) X Y fs).run P w = .ok (fs.all fun fld => rs fld.offset) w
  | [], _ => by simp [Op.eqFields]
  | fld :: fs, h => by
    obtain ⟨h1, a, b, h3, h4, h5⟩ := h fld (List.mem_cons_self ..)
    have ih := eqFields_all w d X Y rs fs (fun f hf => h f (List.mem_cons_of_mem _ hf))
    simp only [Op.eqFields, h1, ne_eq, not_false_eq_true, if_true, Sem.run_bind, h3, h4, Result.andThen_ok, h5, List.all_cons]
    cases hx : rs fld.offset <;> simp [ih]
theorem rc_fields : (Try.prog.fieldsOf 24).toList.map (fun f => (f.name == "_", f.type, f.offset)) = [(false, 9, 0), (false, 9, 1), (false, 9, 2), (false, 3, 3), (false, 3, 4), (false, 3, 5), (false, 22, 6)] := by kernel_rfl
/-- the cells by number. -/
def cellOf (r : Rc) : Nat → Value
  | 0 => .string r.num
  | 1 => .string r.game
  | 2 => .string r.slip
  | 3 => .int .i64 r.first
  | 4 => .int .i64 r.price
  | 5 => .int .i64 r.date
  | _ => .int .u64 (r.sign : Int)
def fldSame (a b : Rc) : Nat → Bool
  | 0 => a.num.toList == b.num.toList
  | 1 => a.game.toList == b.game.toList
  | 2 => a.slip.toList == b.slip.toList
  | 3 => a.first == b.first
  | 4 => a.price == b.price
  | 5 => a.date == b.date
  | _ => (a.sign : Int) == (b.sign : Int)
def sameR (a b : Rc) : Bool := fldSame a b 0 && (fldSame a b 1 && (fldSame a b 2 && (fldSame a b 3 && (fldSame a b 4 && (fldSame a b 5 && fldSame a b 6)))))
theorem sameR_iff (a b : Rc) : sameR a b = true ↔ a = b := by
  constructor
  · intro h
    simp only [sameR, fldSame, Bool.and_eq_true, beq_iff_eq, ByteArray.toList_eq] at h
    obtain ⟨h1, h2, h3, h4, h5, h6, h7⟩ := h
    obtain ⟨a1, a2, a3, a4, a5, a6, a7⟩ := a
    obtain ⟨b1, b2, b3, b4, b5, b6, b7⟩ := b
    simp only at h1 h2 h3 h4 h5 h6 h7
    have e1 := data_inj h1
    have e2 := data_inj h2
    have e3 := data_inj h3
    have e7 : a7 = b7 := by omega
    subst e1 e2 e3 h4 h5 h6 e7
    rfl
  · rintro rfl
    simp [sameR, fldSame]
theorem part_s (r : Rc) (w : World) : ∀ i, i < 3 → (part 9 r.cells i).run Try.prog w = .ok (cellOf r i) w := by
  intro i hi
  match i, hi with
  | 0, _ => show _ = _; kernel_rfl
  | 1, _ => show _ = _; kernel_rfl
  | 2, _ => show _ = _; kernel_rfl
  | k + 3, h => exact absurd h (by omega)
theorem part_i3 (r : Rc) (w : World) : (part 3 r.cells 3).run Try.prog w = .ok (.int .i64 r.first) w := by kernel_rfl
theorem part_i4 (r : Rc) (w : World) : (part 3 r.cells 4).run Try.prog w = .ok (.int .i64 r.price) w := by kernel_rfl
theorem part_i5 (r : Rc) (w : World) : (part 3 r.cells 5).run Try.prog w = .ok (.int .i64 r.date) w := by kernel_rfl
theorem part_u6 (r : Rc) (w : World) : (part 22 r.cells 6).run Try.prog w = .ok (.int .u64 (r.sign : Int)) w := by kernel_rfl
theorem equalIn_rc (a b : Rc) (w : World) : (Op.eqFields 9999 a.cells b.cells (Try.prog.fieldsOf 24).toList).run Try.prog w = .ok (sameR a b) w := by
  have h := eqFields_all (P := Try.prog) w 9998 a.cells b.cells (fldSame a b) (Try.prog.fieldsOf 24).toList (fun fld hm => by
    have h1 : (fld.name == "_", fld.type, fld.offset) ∈ (Try.prog.fieldsOf 24).toList.map (fun f => (f.name == "_", f.type, f.offset)) := List.mem_map_of_mem hm
    rw [rc_fields] at h1
    simp only [List.mem_cons, List.not_mem_nil, or_false, Prod.mk.injEq] at h1
    have hs := @run_equalIn_string
    rcases h1 with ⟨h2, h3, h4⟩ | ⟨h2, h3, h4⟩ | ⟨h2, h3, h4⟩ | ⟨h2, h3, h4⟩ | ⟨h2, h3, h4⟩ | ⟨h2, h3, h4⟩ | ⟨h2, h3, h4⟩
    all_goals (rw [h3, h4]; refine ⟨by simpa using h2, ?_⟩)
    · exact ⟨_, _, part_s a w 0 (by omega), part_s b w 0 (by omega), run_equalIn_string w _ _ _ _ Try.underlying9⟩
    · exact ⟨_, _, part_s a w 1 (by omega), part_s b w 1 (by omega), run_equalIn_string w _ _ _ _ Try.underlying9⟩
    · exact ⟨_, _, part_s a w 2 (by omega), part_s b w 2 (by omega), run_equalIn_string w _ _ _ _ Try.underlying9⟩
    · exact ⟨_, _, part_i3 a w, part_i3 b w, run_equalIn_int w _ _ _ _ _ _ Try.underlying3⟩
    · exact ⟨_, _, part_i4 a w, part_i4 b w, run_equalIn_int w _ _ _ _ _ _ Try.underlying3⟩
    · exact ⟨_, _, part_i5 a w, part_i5 b w, run_equalIn_int w _ _ _ _ _ _ Try.underlying3⟩
    · exact ⟨_, _, part_u6 a w, part_u6 b w, run_equalIn_int w _ _ _ _ _ _ Try.underlying22⟩)
  have ho : (Try.prog.fieldsOf 24).toList.map (fun f => f.offset) = [0, 1, 2, 3, 4, 5, 6] := by
    have := congrArg (List.map fun x : Bool × TypeId × Nat => x.2.2) rc_fields
    simpa [List.map_map, Function.comp_def] using this
  have ha : ((Try.prog.fieldsOf 24).toList.all fun fld => fldSame a b fld.offset) = [0, 1, 2, 3, 4, 5, 6].all fun i => fldSame a b i := by
    rw [← ho, List.all_map]
    rfl
  rw [h, ha]
  simp [sameR]
theorem run_rc_eql (a b : Rc) (w : World) : (binOp .eql 24 (.agg a.cells) (.agg b.cells)).run Try.prog w = .ok (.bool (sameR a b)) w := by
  have hs := run_equalIn_struct (P := Try.prog) w 9999 24 _ _ (by kernel_rfl) (by kernel_rfl) |>.trans (equalIn_rc a b w)
  rw [run_eql_struct, hs, Result.andThen_ok]
theorem run_rc_neq (a b : Rc) (w : World) : (binOp .neq 24 (.agg a.cells) (.agg b.cells)).run Try.prog w = .ok (.bool (!sameR a b)) w := by
  have hs := run_equalIn_struct (P := Try.prog) w 9999 24 _ _ (by kernel_rfl) (by kernel_rfl) |>.trans (equalIn_rc a b w)
  simp only [binOp]
  simp [Op.equal, Op.maxDepth, hs]

/-! ### a whole receipt -/
theorem size_rc : (Try.prog.info? 24).map (·.size) = some 7 := by kernel_rfl
theorem cells_size (r : Rc) : r.cells.size = 7 := rfl
def storeRow (t : TypeId) (p v : Value) : Sem Unit := Instr.storeAt t p v
theorem exec_load_rc (ρ : Operand → Value) (dst : Option Tmp) (x : Operand) (ty : TypeId) (pos : String) (after : Array Edge) (guard : Option (Nat × Bool)) :
    execOp ρ { dst, op := .load 24 x, type := ty, pos, after, guard } = (do pure (.value (← loadRow 24 (ρ x)))) := rfl
theorem exec_store_rc (ρ : Operand → Value) (dst : Option Tmp) (x y : Operand) (ty : TypeId) (pos : String) (after : Array Edge) (guard : Option (Nat × Bool)) :
    execOp ρ { dst, op := .store 24 x y, type := ty, pos, after, guard } = (do storeRow 24 (ρ x) (ρ y); pure .skip) := rfl
theorem load_rc {W : World} {g : Nat} {cs : Array Value} (h : Blk W g 24 cs) (hs : cs.size = 7) : (loadRow 24 (.pointer (some ⟨g, 0, none⟩))).run Try.prog W = .ok (.agg cs) W :=
  run_loadRow h Try.underlying24 (size_rc.trans (congrArg some hs.symm))
theorem store_rc {W : World} {g : Nat} {old cs : Array Value} (h : Blk W g 24 old) (ho : old.size = 7) (hs : cs.size = 7) (h1 : cs.toList.all (·.oneCell') = true) : (storeRow 24 (.pointer (some ⟨g, 0, none⟩)) (.agg cs)).run Try.prog W = .ok () (W.setRow g cs) := by
  unfold storeRow
  simp only [Instr.storeAt, Instr.sureAddr, Sem.run_bind, Sem.run_pure, Result.andThen_ok, run_storeVar_row W g 24 24 old cs h (size_rc.trans (congrArg some hs.symm)) (ho.trans hs.symm) (by rw [← Array.all_toList]; exact h1)]
theorem Blk_setRow {w : World} {g : Nat} {t : TypeId} {old : Array Value} (h : Blk w g t old) (cs : Array Value) : Blk (w.setRow g cs) g t cs := setRow_heap w g old cs t (0, 0) h
theorem frm_setRow (w : World) (g : Nat) (cs : Array Value) : Frm (· = g) w (w.setRow g cs) := ⟨rfl, rfl, rfl, by simp, fun i _ hn => setRow_other w g i cs (fun e => hn (by omega))⟩
theorem one_rc (r : Rc) : r.cells.toList.all (·.oneCell') = true := rfl
theorem ret_rc {fn : Func} {p : Tmp} {R : Ending → World → Prop} {a : Act} {w : World} {g : Nat} {cs : Array Value} (h : fn.results = #[.cell p 24]) (hd : a.defers = [])
    (hp : a.tmps.getD p undef = .pointer (some ⟨g, 0, none⟩)) (hg : Blk w g 24 cs) (hs : cs.size = 7) (hR : R (.returned (.agg cs)) w) : bodyPost Try.prog fn R .ret a w :=
  bodyPost_ret (results_cell_row h a.tmps w g _ cs (0, 0) _ hp hg Try.underlying24 rfl (size_rc.trans (congrArg some hs.symm))) hd hR
/-- the zero receipt's cells. -/
theorem none_cells : none_.cells = #[.string ⟨#[]⟩, .string ⟨#[]⟩, .string ⟨#[]⟩, .int .i64 0, .int .i64 0, .int .i64 0, .int .u64 0] := rfl
end Go.Proofs.Ytjnaooiklcbemaa.Rt
