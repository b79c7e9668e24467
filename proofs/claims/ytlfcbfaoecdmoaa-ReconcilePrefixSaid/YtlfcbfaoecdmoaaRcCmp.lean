/-
  The walks of Compare of package reconcile and of its reference. Conditions: the totals are values.
-/
import Derived.Test.YtlfcbfaoecdmoaaRcEq
import Derived.Deep.RegionHeld3
import Derived.Deep.DeepCutAuto
namespace Go.Proofs.Ytlfcbfaoecdmoaa.Rc
open Go.RowKit Go.Proofs.Ytlfcbfaoecdmoaa.Mem Go.Proofs.Ytlfcbfaoecdmoaa.Eqs

/-- the names of the fields before number k in which two lists of numbers differ. -/
def diff (xs ys : List Int) : Nat → List ByteArray
  | 0 => []
  | k + 1 => diff xs ys k ++ (if xs.getD k 0 = ys.getD k 0 then [] else [nameL.getD k ⟨#[]⟩])
theorem getD_at {l : List Int} {k : Nat} (h : k < l.length) : l.getD k 0 = l[k] := by simp [List.getD, h]
theorem diff_same {xs ys : List Int} {k : Nat} (hx : k < xs.length) (hy : k < ys.length) (h : xs[k] = ys[k]) : diff xs ys (k + 1) = diff xs ys k := by
  rw [diff, getD_at hx, getD_at hy, if_pos h, List.append_nil]
theorem diff_other {xs ys : List Int} {k : Nat} (hx : k < xs.length) (hy : k < ys.length) (h : ¬ xs[k] = ys[k]) {hn : k < nameL.length} : diff xs ys (k + 1) = diff xs ys k ++ [nameL[k]] := by
  rw [diff, getD_at hx, getD_at hy, if_neg h]
  simp [List.getD, hn]
theorem diff_le (xs ys : List Int) (k : Nat) : (diff xs ys k).length ≤ k := by
  induction k with
  | zero => simp [diff]
  | succ k ih =>
    rw [diff, List.length_append]
    split <;> simp <;> omega
theorem one_str (s : ByteArray) : ∀ u ∈ [Value.string s], u.oneCell' = true := by
  intro u hu
  simp only [List.mem_singleton] at hu
  subst hu
  rfl
theorem strs_snoc (l : List ByteArray) (s : ByteArray) : strs (l ++ [s]) = strs l ++ [.string s] := by simp [strs]
theorem info_str : (Try.prog.info? 9).map (fun i => (i.zero, i.size, i.bytes)) = some (some (.string ⟨#[]⟩), 1, 16) := by kernel_rfl
theorem size_tot : (Try.prog.info? 23).map (·.size) = some 17 := by kernel_rfl

theorem exec_load_tot (ρ : Operand → Value) (dst : Option Tmp) (x : Operand) (ty : TypeId) (pos : String) (after : Array Edge) (guard : Option (Nat × Bool)) :
    execOp ρ { dst, op := .load 23 x, type := ty, pos, after, guard } = (do pure (.value (← loadRow 23 (ρ x)))) := rfl
attribute [local go_sem ↓] exec_load_tot
theorem load_tot {W : World} {g : Nat} {cs : Array Value} (h : Blk W g 23 cs) (hs : cs.size = 17) : (loadRow 23 (.pointer (some ⟨g, 0, none⟩))).run Try.prog W = .ok (.agg cs) W :=
  run_loadRow h Try.underlying23 (size_tot.trans (congrArg some hs.symm))
set_option maxHeartbeats 1000000 in
theorem compare_core (cs ds : Array Value) (xs ys : List Int) (w : World) (hcs : cs.size = 17) (hds : ds.size = 17) (heq : ∀ W, (binOp .eql 23 (.agg cs) (.agg ds)).run Try.prog W = .ok (.bool false) W)
    (hF1 : ∀ W, Calls Try.prog 10 #[.agg cs] W (RetL 17 (ints xs) W)) (hF2 : ∀ W, Calls Try.prog 10 #[.agg ds] W (RetL 17 (ints ys) W)) :
    Calls Try.prog 16 #[.agg cs, .agg ds] w (RetL (diff xs ys 17).length (strs (diff xs ys 17)) w) := by
  have HF1 := Lib.hid hF1
  have HF2 := Lib.hid hF2
  have S1 := Lib.hid (size_tot.trans (congrArg some hcs.symm))
  have S2 := Lib.hid (size_tot.trans (congrArg some hds.symm))
  clear hF1 hF2
  have HC := Lib.hid hcs
  have HD := Lib.hid hds
  clear hcs hds
  have B1 : Blk ((w.alloc (.cells cs 23)).alloc (.cells ds 23)) w.heap.size 23 cs := heap_alloc2_old _ _ _
  have B2 : Blk ((w.alloc (.cells cs 23)).alloc (.cells ds 23)) (w.heap.size + 1) 23 ds := heap_alloc2_new _ _ _
  have l1 := load_tot B1 HC.out
  have l2 := load_tot B2 HD.out
  have HB : Hid (Below w.heap.size w ((w.alloc (.cells cs 23)).alloc (.cells ds 23))) := ((Below.refl _ _).alloc (Nat.le_refl _) _).alloc (by simp) _
  have HZ : Hid (((w.alloc (.cells cs 23)).alloc (.cells ds 23)).heap.size = w.heap.size + 2) := by show _ = _; simp
  go_enter Try.func16, Try.ntmps16
  go_wp2_with fail
  clear l1 l2 heq
  generalize (w.alloc (.cells cs 23)).alloc (.cells ds 23) = W at *
  have l1 := load_tot B1 HC.out
  have l2 := load_tot B2 HD.out
  go_region_held3 (fun w' => (loadRow 23 (.pointer (some ⟨w.heap.size, 0, none⟩))).run Try.prog w' = .ok (.agg cs) w' ∧ (loadRow 23 (.pointer (some ⟨w.heap.size + 1, 0, none⟩))).run Try.prog w' = .ok (.agg ds) w')
    (first
      | exact ⟨load_tot B1.drew HC.out, load_tot B2.drew HD.out⟩
      | exact ⟨load_tot (B1.drew.below hb1 (by have := HZ.out; simp; omega)) HC.out, load_tot (B2.drew.below hb1 (by have := HZ.out; simp; omega)) HD.out⟩
      | exact ⟨load_tot ((B1.drew.below hb1 (by have := HZ.out; simp; omega)).below hb2 (by have := HZ.out; have := hb1.size; simp at this; omega)) HC.out, load_tot ((B2.drew.below hb1 (by have := HZ.out; simp; omega)).below hb2 (by have := HZ.out; have := hb1.size; simp at this; omega)) HD.out⟩)
    (first
      | (go_at_call_of 10 (cs); refine (HF1.out _).mono ?_; rintro e w1 ⟨A1, c1, rfl, hs1, hb1⟩)
      | (go_at_call_of 10 (ds); refine (HF2.out _).mono ?_; rintro e w2 ⟨A2, c2, rfl, hs2, hb2⟩))
  have h1 := hs1.below hb2 (Nat.le_refl _)
  have HB2 : Hid (Below w.heap.size w w2) := by
    have e := HZ.out
    exact HB.out.trans ((Below.refl _ W).drew.trans ((hb1.mono (by simp; omega)).trans (hb2.mono (by have := hb1.size; simp at this; omega))))
  clear l1 l2 B1 B2 HB HZ hb1 hb2 hs1 HF1 HF2 HC HD S1 S2
  go_wp2_with fail
  refine (names_any _).mono ?_
  rintro e w3 ⟨A3, c3, rfl, hs3, hb3⟩
  have k1 := h1.below hb3 (Nat.le_refl _)
  have k2 := hs2.below hb3 (Nat.le_refl _)
  have HB3 : Hid (Below w.heap.size w w3) := HB2.out.trans (hb3.mono HB2.out.size)
  clear h1 hs2 hb3 HB2
  obtain ⟨b1, o1, rfl, c1'⟩ := k1.open_ (by omega)
  obtain ⟨b2, o2, rfl, c2'⟩ := k2.open_ (by omega)
  obtain ⟨b3, o3, rfl, c3'⟩ := hs3.open_ (by omega)
  have C1 := Lib.hid c1'
  have C2 := Lib.hid c2'
  have C3 := Lib.hid c3'
  have LX : Hid (xs.length = 17) := by show _ = _; simpa [ints_len] using k1.1
  have LY : Hid (ys.length = 17) := by show _ = _; simpa [ints_len] using k2.1
  clear c1' c2' c3' k1 k2 hs3
  obtain ⟨i0, hi0, hz0, hz1, hz2⟩ := info_parts info_str
  go_wp2_with fail
  go_loopw [7, 19] (fun v i wr => ∃ k : Nat, k ≤ 17 ∧ i = .int .i64 k ∧ wr.ownsRow w3.heap.size 9 1 v (diff xs ys k).length (strs (diff xs ys k)) ∧ Below w3.heap.size w3 wr) (fun _ i _ => 17 - (intOf i).toNat)
  case atStart => exact ⟨0, by omega, rfl, World.ownsRow_nil _ _ _ _, Below.refl _ _⟩
  case round =>
    obtain ⟨k, hk, rfl, hown, hbel⟩ := hrel
    by_cases hlt : k < 17
    · have kx : k < xs.length := by have := LX.out; omega
      have ky : k < ys.length := by have := LY.out; omega
      have kn : k < nameL.length := hlt
      have g1 := C1.out k _ (ints_at kx)
      have g2 := C2.out k _ (ints_at ky)
      have g3 := C3.out k _ (strs_at kn)
      have d1 := (hbel.cell (p := ⟨b1, o1 + k, none⟩) (World.block_lt_of_cell? _ _ g1)).trans g1
      have d2 := (hbel.cell (p := ⟨b2, o2 + k, none⟩) (World.block_lt_of_cell? _ _ g2)).trans g2
      have d3 := (hbel.cell (p := ⟨b3, o3 + k, none⟩) (World.block_lt_of_cell? _ _ g3)).trans g3
      have hlti : (k : Int) < 17 := by omega
      have h0i : (0 : Int) ≤ (k : Int) := by omega
      clear g1 g2 g3
      by_cases he : xs[k] = ys[k]
      · have hne : (xs[k] != ys[k]) = false := by simp [he]
        have HS : Hid (diff xs ys (k + 1) = diff xs ys k) := diff_same kx ky he
        clear he
        go_wp2
        go_quiet (fail)
        go_wp2
        go_roundw
        case rel => exact ⟨k + 1, by omega, by go_num, by rw [HS.out]; exact hown, below_drewN hbel _⟩
        case measure => simp [intOf]; omega
      · have hne : (xs[k] != ys[k]) = true := by simp; exact he
        have HS : Hid (diff xs ys (k + 1) = diff xs ys k ++ [nameL[k]]) := diff_other kx ky he
        clear he
        go_wp2
        go_quiet (fail)
        have ho : (wr.drewN nq).ownsRow w3.heap.size 9 1 u7 (diff xs ys k).length (strs (diff xs ys k)) := hown
        have hbl := below_drewN hbel nq
        have hle := diff_le xs ys k
        have HL : Hid ((diff xs ys (k + 1)).length = (diff xs ys k).length + 1) := by show _ = _; rw [HS.out]; simp
        generalize hD : diff xs ys k = D at ho hle HL HS
        generalize nameL[k] = nm at *
        clear hown hbel d1 d2 d3 hD
        generalize wr.drewN nq = X at *
        go_wp2_with (at_builtin; refine wpList_append_own _ rfl _ _ 28 rfl w3.heap.size 9 i0 (.string ⟨#[]⟩) 1 16 Try.underlying28 hi0 hz0 hz1 hz2 rfl (by decide) _ _ _ rfl (ho.alloc _) ⟨X.heap.size, 0, none⟩ 1 1 [.string nm] rfl rfl (cell_one_new _ _ _) (one_str nm) (by unfold maxLen; omega) (by omega) (by have := hbl.size; simp; omega) ?_; intro v4 w4 hown4 hg4 _)
        go_roundw
        case rel => exact ⟨k + 1, by omega, by go_num, by rw [HL.out, HS.out, strs_snoc]; exact hown4, (hbl.alloc hbl.size _).grown hg4 (by have := hbl.size; simp; omega) (fun j hj => (World.ownsRow.lt ho j hj).1)⟩
        case measure => simp [intOf]; omega
    · obtain rfl : k = 17 := by omega
      obtain ⟨A, c, rfl, hsl⟩ := own_form hown
      go_wp2
      go_ret
      exact ⟨A, c, rfl, hsl, HB3.out.trans (hbel.mono HB3.out.size)⟩
end Go.Proofs.Ytlfcbfaoecdmoaa.Rc
