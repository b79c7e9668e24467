/-
  The walks of Compare of package reconcile, whatever the totals, and of its reference. Conditions: the totals are values.
-/
import Derived.Test.YtlfcbfaoecdmoaaRcCmp
namespace Go.Proofs.Ytlfcbfaoecdmoaa.Rc
open Go.RowKit Go.Proofs.Ytlfcbfaoecdmoaa.Mem Go.Proofs.Ytlfcbfaoecdmoaa.Eqs
attribute [local go_sem ↓] exec_load_tot

/-- the cells cs are totals with the numbers xs. -/
def Tot (cs : Array Value) (xs : List Int) : Prop := ∃ f : Nat → Int, Value.agg cs = tot f ∧ xs = flist f
theorem Tot.size {cs : Array Value} {xs : List Int} (h : Tot cs xs) : cs.size = 17 := by
  obtain ⟨f, e, _⟩ := h
  injection e with e
  rw [e]
  rfl
theorem Tot.len {cs : Array Value} {xs : List Int} (h : Tot cs xs) : xs.length = 17 := by
  obtain ⟨f, _, rfl⟩ := h
  rfl
theorem Tot.fields {cs : Array Value} {xs : List Int} (h : Tot cs xs) (W : World) : Calls Try.prog 10 #[.agg cs] W (RetL 17 (ints xs) W) := by
  obtain ⟨f, e, rfl⟩ := h
  rw [e]
  exact fields_any f W
theorem Tot.fieldsR {cs : Array Value} {xs : List Int} (h : Tot cs xs) (W : World) : Calls Try.prog 11 #[.agg cs] W (RetL 17 (ints xs) W) := by
  obtain ⟨f, e, rfl⟩ := h
  rw [e]
  exact fieldsR_any f W
theorem Tot.eql {cs ds : Array Value} {xs ys : List Int} (h : Tot cs xs) (g : Tot ds ys) (W : World) : (binOp .eql 23 (.agg cs) (.agg ds)).run Try.prog W = .ok (.bool (decide (xs = ys))) W := by
  obtain ⟨f, e, rfl⟩ := h
  obtain ⟨f', e', rfl⟩ := g
  rw [e, e']
  exact run_tot_eql f f' W
theorem diff_self (xs : List Int) (k : Nat) : diff xs xs k = [] := by
  induction k with
  | zero => rfl
  | succ k ih => rw [diff, ih, if_pos rfl]; rfl

set_option maxHeartbeats 1000000 in
theorem compare_any (cs ds : Array Value) (xs ys : List Int) (w : World) (h : Tot cs xs) (g : Tot ds ys) :
    Calls Try.prog 16 #[.agg cs, .agg ds] w (RetL (diff xs ys 17).length (strs (diff xs ys 17)) w) := by
  by_cases hxy : xs = ys
  · subst hxy
    rw [diff_self]
    have heq := fun W => h.eql g W
    simp only [decide_true] at heq
    have HC := Lib.hid h.size
    have HD := Lib.hid g.size
    have B1 : Blk ((w.alloc (.cells cs 23)).alloc (.cells ds 23)) w.heap.size 23 cs := heap_alloc2_old _ _ _
    have B2 : Blk ((w.alloc (.cells cs 23)).alloc (.cells ds 23)) (w.heap.size + 1) 23 ds := heap_alloc2_new _ _ _
    have l1 := load_tot B1 HC.out
    have l2 := load_tot B2 HD.out
    clear h g
    go_enter Try.func16, Try.ntmps16
    go_wp2_with fail
    go_ret
    exact ⟨none, 0, rfl, Sl.nil_ _ _ _, ((Below.refl _ _).alloc (Nat.le_refl _) _).alloc (by simp) _⟩
  · have hne : decide (xs = ys) = false := by simpa using hxy
    exact compare_core cs ds xs ys w h.size g.size (fun W => by rw [h.eql g W, hne]) h.fields g.fields

set_option maxHeartbeats 1000000 in
theorem compareR_any (cs ds : Array Value) (xs ys : List Int) (w : World) (h : Tot cs xs) (g : Tot ds ys) :
    Calls Try.prog 17 #[.agg cs, .agg ds] w (RetL (diff xs ys 17).length (strs (diff xs ys 17)) w) := by
  have HG := Lib.hid h
  have HH := Lib.hid g
  have HC := Lib.hid h.size
  have HD := Lib.hid g.size
  have LX := Lib.hid h.len
  have LY := Lib.hid g.len
  clear h g
  have B1 : Blk ((w.alloc (.cells cs 23)).alloc (.cells ds 23)) w.heap.size 23 cs := heap_alloc2_old _ _ _
  have B2 : Blk ((w.alloc (.cells cs 23)).alloc (.cells ds 23)) (w.heap.size + 1) 23 ds := heap_alloc2_new _ _ _
  have l1 := load_tot B1 HC.out
  have HB : Hid (Below w.heap.size w ((w.alloc (.cells cs 23)).alloc (.cells ds 23))) := ((Below.refl _ _).alloc (Nat.le_refl _) _).alloc (by simp) _
  have HZ : Hid (((w.alloc (.cells cs 23)).alloc (.cells ds 23)).heap.size = w.heap.size + 2) := by show _ = _; simp
  go_enter Try.func17, Try.ntmps17
  go_wp2_with fail
  clear l1
  generalize (w.alloc (.cells cs 23)).alloc (.cells ds 23) = W at *
  refine (HG.out.fieldsR _).mono ?_
  rintro e w1 ⟨A1, c1, rfl, hs1, hb1⟩
  have l2 := load_tot (B2.below hb1 (by have := HZ.out; omega)) HD.out
  go_wp2_with fail
  clear l2
  refine (HH.out.fieldsR _).mono ?_
  rintro e w3 ⟨A2, c2, rfl, hs2, hb2⟩
  have k1 := hs1.below hb2 (Nat.le_refl _)
  have HB3 : Hid (Below w.heap.size w w3) := by
    have e := HZ.out
    exact HB.out.trans ((hb1.mono (by omega)).trans (hb2.mono (by have := hb1.size; omega)))
  clear hs1 hb1 hb2 HB HZ B1 B2 HC HD HG HH
  obtain ⟨b1, o1, rfl, c1'⟩ := k1.open_ (by omega)
  obtain ⟨b2, o2, rfl, c2'⟩ := hs2.open_ (by omega)
  have C1 := Lib.hid c1'
  have C2 := Lib.hid c2'
  clear c1' c2' k1 hs2
  obtain ⟨i0, hi0, hz0, hz1, hz2⟩ := info_parts info_str
  go_wp2_with fail
  go_loopw [5, 8] (fun v i wr => ∃ k : Nat, k ≤ 17 ∧ i = .int .i64 k ∧ wr.ownsRow w3.heap.size 9 1 v (diff xs ys k).length (strs (diff xs ys k)) ∧ Below w3.heap.size w3 wr) (fun _ i _ => 17 - (intOf i).toNat)
  case atStart => exact ⟨0, by omega, rfl, World.ownsRow_nil _ _ _ _, Below.refl _ _⟩
  case round =>
    obtain ⟨k, hk, rfl, hown, hbel⟩ := hrel
    by_cases hlt : k < 17
    · have kx : k < xs.length := by have := LX.out; omega
      have ky : k < ys.length := by have := LY.out; omega
      have kn : k < nameL.length := hlt
      have g1 := C1.out k _ (ints_at kx)
      have g2 := C2.out k _ (ints_at ky)
      have d1 := (hbel.cell (p := ⟨b1, o1 + k, none⟩) (World.block_lt_of_cell? _ _ g1)).trans g1
      have d2 := (hbel.cell (p := ⟨b2, o2 + k, none⟩) (World.block_lt_of_cell? _ _ g2)).trans g2
      have hlti : (k : Int) < 17 := by omega
      have h0i : (0 : Int) ≤ (k : Int) := by omega
      clear g1 g2
      by_cases he : xs[k] = ys[k]
      · have hne : (xs[k] != ys[k]) = false := by simp [he]
        have HS : Hid (diff xs ys (k + 1) = diff xs ys k) := diff_same kx ky he
        clear he
        go_wp2
        go_quiet (fail)
        go_wp2
        go_roundw
        case rel => exact ⟨k + 1, by omega, by go_num, by rw [HS.out]; exact hown, below_drewN hbel _⟩
        case measure => simp [intOf]; omega
      · have hne : (xs[k] != ys[k]) = true := by simp; exact he
        have HS : Hid (diff xs ys (k + 1) = diff xs ys k ++ [nameL[k]]) := diff_other kx ky he
        clear he
        go_wp2
        go_quiet (fail)
        have ho : (wr.drewN nq).ownsRow w3.heap.size 9 1 u5 (diff xs ys k).length (strs (diff xs ys k)) := hown
        have hbl := below_drewN hbel nq
        have hle := diff_le xs ys k
        have HL : Hid ((diff xs ys (k + 1)).length = (diff xs ys k).length + 1) := by show _ = _; rw [HS.out]; simp
        generalize hD : diff xs ys k = D at ho hle HL HS
        clear hown hbel d1 d2 hD
        generalize wr.drewN nq = X0 at *
        go_wp2_with fail
        refine (namesR_any _).mono ?_
        rintro e X ⟨A3, c3, rfl, hs3, hb3⟩
        have ho2 := own_frm ho (Frm.of_below (F := fun _ => False) hb3 (fun i hi hc => absurd hi (by omega))) (fun _ _ h => h)
        have hbl2 := hbl.trans (hb3.mono hbl.size)
        obtain ⟨b3, o3, rfl, c3'⟩ := hs3.open_ (by omega)
        have d3 := c3' k _ (strs_at kn)
        generalize nameL[k] = nm at *
        clear c3' hs3 ho hbl hb3
        go_wp2_with (at_builtin; refine wpList_append_own _ rfl _ _ 28 rfl w3.heap.size 9 i0 (.string ⟨#[]⟩) 1 16 Try.underlying28 hi0 hz0 hz1 hz2 rfl (by decide) _ _ _ rfl (ho2.alloc _) ⟨X.heap.size, 0, none⟩ 1 1 [.string nm] rfl rfl (cell_one_new _ _ _) (one_str nm) (by unfold maxLen; omega) (by omega) (by have := hbl2.size; simp; omega) ?_; intro v4 w4 hown4 hg4 _)
        go_roundw
        case rel => exact ⟨k + 1, by omega, by go_num, by rw [HL.out, HS.out, strs_snoc]; exact hown4, (hbl2.alloc hbl2.size _).grown hg4 (by have := hbl2.size; simp; omega) (fun j hj => (World.ownsRow.lt ho2 j hj).1)⟩
        case measure => simp [intOf]; omega
    · obtain rfl : k = 17 := by omega
      obtain ⟨A, c, rfl, hsl⟩ := own_form hown
      go_wp2
      go_ret
      exact ⟨A, c, rfl, hsl, HB3.out.trans (hbel.mono HB3.out.size)⟩
end Go.Proofs.Ytlfcbfaoecdmoaa.Rc
