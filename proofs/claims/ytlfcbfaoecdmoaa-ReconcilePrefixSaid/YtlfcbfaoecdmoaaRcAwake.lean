/-
  The examples of chapter 54 hold ('awake'): the walk. No conditions.
-/
import Derived.Test.YtlfcbfaoecdmoaaRcCmp2
import Derived.Test.YtlfcbfaoecdmoaaJrLoc2
namespace Go.Proofs.Ytlfcbfaoecdmoaa.Rc
open Go.RowKit Go.Proofs.Ytlfcbfaoecdmoaa.Mem Go.Proofs.Ytlfcbfaoecdmoaa.Eqs Go.Proofs.Ytlfcbfaoecdmoaa.Jr
attribute [local go_sem ↓] exec_load_rec

/-- a record of which only the kind is not zero. -/
def recK (k : Int) : Rec := ⟨k, 0, 0, 0, 0, ⟨#[]⟩, ⟨#[]⟩, [], 0, 0, ⟨#[]⟩, []⟩
abbrev cellsK (k : Int) : List Value := [.int .i64 k, .int .i64 0, .int .i64 0, .int .i64 0, .int .i64 0, .string ⟨#[]⟩, .string ⟨#[]⟩, .slice none 0 0, .int .u64 0, .int .u64 0, .string ⟨#[]⟩, .slice none 0 0]
theorem isRecK (w : World) (k : Int) : IsRec w (cellsK k).toArray (recK k) := ⟨none, 0, none, 0, rfl, Sl.nil_ _ _ _, Sl.nil_ _ _ _, Nat.zero_le _, Nat.zero_le _⟩
def rowK : List Int → List Value
  | [] => []
  | k :: ks => cellsK k ++ rowK ks
theorem rowK_at (ks : List Int) (i j : Nat) (k : Int) (v : Value) (h : ks[i]? = some k) (hv : (cellsK k)[j]? = some v) : (rowK ks)[i * 12 + j]? = some v := by
  induction ks generalizing i with
  | nil => simp at h
  | cons a r ih =>
    cases i with
    | zero =>
      simp only [List.getElem?_cons_zero, Option.some.injEq] at h
      subst h
      have hj : j < (cellsK a).length := (List.getElem?_eq_some_iff.1 hv).1
      rw [Nat.zero_mul, Nat.zero_add, rowK, List.getElem?_append_left hj]
      exact hv
    | succ i =>
      rw [List.getElem?_cons_succ] at h
      rw [rowK, List.getElem?_append_right (by simp; omega)]
      rw [show (i + 1) * 12 + j - (cellsK a).length = i * 12 + j from by simp; omega]
      exact ih i h
theorem recSlK (W : World) (ks : List Int) (t : TypeId) {g : Nat} (hg : g = W.heap.size) : RecSl (W.alloc (.cells (rowK ks).toArray t)) (some ⟨g, 0, none⟩) (ks.map recK) := by
  intro i r hr
  rw [List.getElem?_map] at hr
  cases hk : ks[i]? with
  | none => rw [hk] at hr; cases hr
  | some k =>
    rw [hk] at hr
    simp only [Option.map_some, Option.some.injEq] at hr
    subst hr
    refine ⟨g, 0, (cellsK k).toArray, rfl, rfl, isRecK _ k, fun j v hv => ?_⟩
    rw [hg, World.cell?_alloc_mark]
    have := rowK_at ks i j k v hk (by simpa using hv)
    simpa using this
theorem recSl_nil (W : World) (A : Option Addr) : RecSl W A [] := fun k r h => by simp at h

theorem cmp_ex (W : World) : Calls Try.prog 16 #[.agg #[.int .i64 5, .int .i64 0, .int .i64 0, .int .i64 0, .int .i64 0, .int .i64 0, .int .i64 0, .int .i64 0, .int .i64 0, .int .i64 0, .int .i64 0, .int .i64 0, .int .i64 1, .int .i64 0, .int .i64 0, .int .i64 0, .int .i64 0], .agg #[.int .i64 5, .int .i64 0, .int .i64 0, .int .i64 0, .int .i64 0, .int .i64 0, .int .i64 0, .int .i64 0, .int .i64 0, .int .i64 0, .int .i64 0, .int .i64 0, .int .i64 0, .int .i64 0, .int .i64 2, .int .i64 0, .int .i64 0]] W (RetL 2 (strs [⟨#[116, 97, 120]⟩, ⟨#[110, 101, 116]⟩]) W) := by
  have h := compare_any #[.int .i64 5, .int .i64 0, .int .i64 0, .int .i64 0, .int .i64 0, .int .i64 0, .int .i64 0, .int .i64 0, .int .i64 0, .int .i64 0, .int .i64 0, .int .i64 0, .int .i64 1, .int .i64 0, .int .i64 0, .int .i64 0, .int .i64 0] #[.int .i64 5, .int .i64 0, .int .i64 0, .int .i64 0, .int .i64 0, .int .i64 0, .int .i64 0, .int .i64 0, .int .i64 0, .int .i64 0, .int .i64 0, .int .i64 0, .int .i64 0, .int .i64 0, .int .i64 2, .int .i64 0, .int .i64 0] [5, 0, 0, 0, 0, 0, 0, 0, 0, 0, 0, 0, 1, 0, 0, 0, 0] [5, 0, 0, 0, 0, 0, 0, 0, 0, 0, 0, 0, 0, 0, 2, 0, 0] W ⟨fun i => ([5, 0, 0, 0, 0, 0, 0, 0, 0, 0, 0, 0, 1, 0, 0, 0, 0] : List Int).getD i 0, rfl, rfl⟩ ⟨fun i => ([5, 0, 0, 0, 0, 0, 0, 0, 0, 0, 0, 0, 0, 0, 2, 0, 0] : List Int).getD i 0, rfl, rfl⟩
  rw [show diff [5, 0, 0, 0, 0, 0, 0, 0, 0, 0, 0, 0, 1, 0, 0, 0, 0] [5, 0, 0, 0, 0, 0, 0, 0, 0, 0, 0, 0, 0, 0, 2, 0, 0] 17 = [⟨#[116, 97, 120]⟩, ⟨#[110, 101, 116]⟩] from by decide +kernel] at h
  exact h

set_option maxRecDepth 100000 in
set_option maxHeartbeats 2000000 in
theorem awake_any (w : World) : Calls Try.prog 15 #[] w fun e w' => e = .returned (.bool true) ∧ Below w.heap.size w w' := by
  obtain ⟨W, hW⟩ : ∃ W, W = ((w.alloc (.cells (cellsK 1).toArray 48)).alloc (.cells (cellsK 2).toArray 48)).alloc (.cells (cellsK 3).toArray 48) := ⟨_, rfl⟩
  have B1 : Blk W w.heap.size 48 (cellsK 1).toArray := by rw [hW]; exact ((Blk.at _ _ _ rfl).alloc _).alloc _
  have B2 : Blk W (w.heap.size + 1) 48 (cellsK 2).toArray := by rw [hW]; exact (Blk.at _ _ _ (by simp)).alloc _
  have B3 : Blk W (w.heap.size + 1 + 1) 48 (cellsK 3).toArray := by rw [hW]; exact Blk.at _ _ _ (by simp)
  have BW : Below w.heap.size w W := by rw [hW]; exact (((Below.refl _ _).alloc (Nat.le_refl _) _).alloc (by simp) _).alloc (by simp; omega) _
  have HW := Lib.hid hW
  have K1 := Lib.hid B1
  have K2 := Lib.hid B2
  have K3 := Lib.hid B3
  have KW := Lib.hid BW
  clear hW B1 B2 B3 BW
  go_enter Try.func15, Try.ntmps15
  go_wp2_with fail
  rw [show ((w.alloc (.cells #[.int .i64 1, .int .i64 0, .int .i64 0, .int .i64 0, .int .i64 0, .string ⟨#[]⟩, .string ⟨#[]⟩, .slice none 0 0, .int .u64 0, .int .u64 0, .string ⟨#[]⟩, .slice none 0 0] 48)).alloc (.cells #[.int .i64 2, .int .i64 0, .int .i64 0, .int .i64 0, .int .i64 0, .string ⟨#[]⟩, .string ⟨#[]⟩, .slice none 0 0, .int .u64 0, .int .u64 0, .string ⟨#[]⟩, .slice none 0 0] 48)).alloc (.cells #[.int .i64 3, .int .i64 0, .int .i64 0, .int .i64 0, .int .i64 0, .string ⟨#[]⟩, .string ⟨#[]⟩, .slice none 0 0, .int .u64 0, .int .u64 0, .string ⟨#[]⟩, .slice none 0 0] 48) = W from HW.out.symm]
  clear HW
  refine (cmp_ex _).mono ?_
  rintro e w1 ⟨A1, c1, rfl, hs1, hb1⟩
  go_wp2_with fail
  refine (texts54 [⟨#[116, 97, 120]⟩, ⟨#[110, 101, 116]⟩] [⟨#[116, 97, 120]⟩, ⟨#[110, 101, 116]⟩] 2 2 _ _ _ _ _ (by exact hs1.alloc _) (by exact new_row _ (strs [⟨#[116, 97, 120]⟩, ⟨#[110, 101, 116]⟩]) _ 2 _ rfl rfl) (by decide)).mono ?_
  rintro e w2 ⟨rfl, q, hq⟩
  rw [decide_eq_true rfl]
  have H2 : Hid (Below W.heap.size W w2) := by rw [hq]; exact below_drewN (hb1.alloc hb1.size _) q
  clear hs1 hb1 hq
  go_wp2_with fail
  refine (locate_any [] [] none none 0 0 _ _ _ rfl rfl (recSl_nil _ _) (recSl_nil _ _) (by decide) (by decide)).mono ?_
  rintro e w3 ⟨rfl, hb3⟩
  have H3 : Hid (Below W.heap.size W w3) := H2.out.trans (hb3.mono H2.out.size)
  have l1 := load_rec (W := w3) (b := w.heap.size) (off := 0) (cs := (cellsK 1).toArray) (fun j v hv => by rw [Nat.zero_add]; exact ((K1.out.below H3.out K1.out.lt).cell j).trans hv) rfl
  rw [show loc [] [] = (-1, 0) from rfl]
  clear hb3 H2
  go_wp2_with fail
  clear l1
  refine (locate_any [recK 1] [] _ none 1 0 _ _ _ rfl rfl (by exact recSlK w3 [1] _ rfl) (recSl_nil _ _) (by decide) (by decide)).mono ?_
  rintro e w4 ⟨rfl, hb4⟩
  have H4 : Hid (Below W.heap.size W w4) := H3.out.trans (((Below.refl W.heap.size w3).alloc H3.out.size _).trans (hb4.mono (by have := H3.out.size; simp; omega)))
  have ld : ∀ (W' : World) (g : Nat) (k : Int), (∀ j, W'.cell? ⟨g, j, none⟩ = (cellsK k).toArray[j]?) → (loadRow 48 (.pointer (some ⟨g, 0, none⟩))).run Try.prog W' = .ok (.agg (cellsK k).toArray) W' :=
    fun W' g k h => load_rec (W := W') (b := g) (off := 0) (cs := (cellsK k).toArray) (fun j v hv => by rw [Nat.zero_add]; exact (h j).trans hv) rfl
  have l1 := ld w4 w.heap.size 1 (K1.out.below H4.out K1.out.lt).cell
  have l2 := ld w4 (w.heap.size + 1) 2 (K2.out.below H4.out K2.out.lt).cell
  have l3 := ld w4 (w.heap.size + 1 + 1) 3 (K3.out.below H4.out K3.out.lt).cell
  have m1 := fun o => ld (w4.alloc o) w.heap.size 1 ((K1.out.below H4.out K1.out.lt).alloc o).cell
  have m3 := fun o => ld (w4.alloc o) (w.heap.size + 1 + 1) 3 ((K3.out.below H4.out K3.out.lt).alloc o).cell
  rw [show loc [recK 1] [] = (0, 28) from rfl]
  clear hb4 H3 ld
  go_wp2_with fail
  clear l1 l2 l3 m1 m3
  refine (locate_any [recK 1, recK 2, recK 3] [recK 1, recK 1, recK 3] _ _ 3 3 _ _ _ rfl rfl (by exact (recSlK w4 [1, 2, 3] _ rfl).keep fun p hp => World.cell?_alloc_lt _ _ p hp) (by exact recSlK _ [1, 1, 3] _ (by simp)) (by decide) (by decide)).mono ?_
  rintro e w5 ⟨rfl, hb5⟩
  rw [show loc [recK 1, recK 2, recK 3] [recK 1, recK 1, recK 3] = (1, 29) from by decide +kernel]
  have H5 : Hid (Below w.heap.size w w5) := by
    have z := H4.out.size
    exact KW.out.trans ((H4.out.mono KW.out.size).trans ((((Below.refl _ w4).alloc (Nat.le_trans KW.out.size z) _).alloc (by have := KW.out.size; simp; omega) _).trans (hb5.mono (by have := KW.out.size; simp; omega))))
  clear hb5
  go_wp2_with fail
  go_ret
  exact ⟨rfl, H5.out⟩
end Go.Proofs.Ytlfcbfaoecdmoaa.Rc
