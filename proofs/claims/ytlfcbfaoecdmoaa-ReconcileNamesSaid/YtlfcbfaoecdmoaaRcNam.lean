/-
  The walk of ReconcileNames: it returns true, and changes nothing that was there. Conditions: the argument is totals, the field's number is a byte.
-/
import Derived.Test.YtlfcbfaoecdmoaaRcSet
import Derived.Test.YtlfcbfaoecdmoaaRcAgr
namespace Go.Proofs.Ytlfcbfaoecdmoaa.Rc
open Go.RowKit Go.Proofs.Ytlfcbfaoecdmoaa.Mem Go.Proofs.Ytlfcbfaoecdmoaa.Eqs Go.Proofs.Ytlfcbfaoecdmoaa.Jr
attribute [local go_sem ↓] exec_load_tot exec_store_tot

theorem u8_rng {n : Int} (h : (Lit.int .u8 n).wf = true) : 0 ≤ n ∧ n ≤ 255 := by
  simp only [Lit.wf, IntKind.min, IntKind.max, IntKind.signed, IntKind.bits, Bool.and_eq_true] at h
  have h1 := h.1
  have h2 := h.2
  simp at h1 h2
  omega
theorem getD_flist (f : Nat → Int) {j : Nat} (h : j < 17) : (flist f).getD j 0 = f j := by
  rw [getD_at (by rw [flist_len]; exact h)]
  exact flist_at f j h
theorem diff_upd (f : Nat → Int) (k : Nat) (n : Int) (hk : k < 17) (hn : k < nameL.length) : ∀ j, j ≤ 17 → diff (flist f) (flist (upd f k n)) j = if k < j ∧ f k ≠ n then [nameL[k]] else [] := by
  intro j
  induction j with
  | zero => intro _; simp [diff]
  | succ j ih =>
    intro hj
    rw [diff, ih (by omega), getD_flist f (by omega), getD_flist _ (by omega)]
    by_cases e : j = k
    · subst e
      by_cases c : f j = n
      · simp [upd, c]
      · simp [upd, c]
        have : j < 17 := hk
        simp [hn]
    · have : upd f k n j = f j := if_neg e
      rw [this, if_pos rfl]
      have : (k < j + 1 ∧ f k ≠ n) ↔ (k < j ∧ f k ≠ n) := by omega
      simp only [this]
      split <;> simp
theorem upd_same (f : Nat → Int) (k : Nat) (n : Int) (h : f k = n) : upd f k n = f := by
  funext j
  unfold upd
  split
  · subst_vars; rfl
  · rfl
theorem tot_all (f : Nat → Int) : (match tot f with | .agg cs => cs | _ => #[]).toList.all (·.oneCell') = true := rfl

/-- the field with another number: what the walk is told of it. -/
structure NamF (cs ds : Array Value) (xs ys : List Int) (k : Nat) (n : Int) (D : List ByteArray) (q : Bool) : Prop where
  hT : Tot cs xs
  hU : Tot ds ys
  one : ds.toList.all (·.oneCell') = true
  set : ∀ W, Calls Try.prog 18 #[.agg cs, .int .i64 (k : Int), .int .i64 n] W (RetT (.agg ds) W)
  at_ : ys[k]? = some n
  hD : diff xs ys 17 = D
  hq : decide (xs = ys) = q

set_option maxHeartbeats 2000000 in
theorem nam_same (cs ds : Array Value) (xs ys : List Int) (a n : Int) (k : Nat) (w : World) (ha : 0 ≤ a) (hb : a ≤ 255) (hk : k < 17) (hw : a.tmod 17 = (k : Int)) (H : NamF cs ds xs ys k n [] true) :
    Calls Try.prog 6 #[.agg cs, .int .u8 a, .int .i64 n] w fun e w' => e = .returned (.bool true) ∧ Below w.heap.size w w' := by
  have hki : (k : Int) < 17 := by omega
  have hk0 : (0 : Int) ≤ (k : Int) := by omega
  have HF := Lib.hid H
  have KL : Hid (∀ W, Blk W w.heap.size 23 cs → (loadRow 23 (.pointer (some ⟨w.heap.size, 0, none⟩))).run Try.prog W = .ok (.agg cs) W) := fun W hb => load_tot hb HF.out.hT.size
  have HQ : Hid (∀ W, (binOp .eql 23 (.agg cs) (.agg ds)).run Try.prog W = .ok (.bool true) W) := fun W => by rw [← HF.out.hq]; exact HF.out.hT.eql HF.out.hU W
  have CA : Hid (∀ W, Calls Try.prog 16 #[.agg cs, .agg ds] W (RetL (([] : List ByteArray)).length (strs (([] : List ByteArray))) W)) := fun W => by rw [← HF.out.hD]; exact compare_any cs ds xs ys W HF.out.hT HF.out.hU
  clear H
  have l1 := KL.out _ (heap_alloc2_old w (.cells cs 23) (.cells #[.string ⟨#[115, 97, 108, 101, 115]⟩, .string ⟨#[99, 97, 110, 99, 101, 108, 115]⟩, .string ⟨#[97, 100, 100, 111, 110, 115]⟩, .string ⟨#[105, 110, 115, 116, 97, 110, 116, 115]⟩, .string ⟨#[114, 101, 116, 117, 114, 110, 115]⟩, .string ⟨#[102, 117, 110, 100, 115]⟩, .string ⟨#[114, 101, 115, 101, 114, 118, 101]⟩, .string ⟨#[112, 114, 105, 122, 101, 115]⟩, .string ⟨#[99, 97, 114, 114, 105, 101, 100]⟩, .string ⟨#[98, 114, 101, 97, 107, 97, 103, 101]⟩, .string ⟨#[99, 108, 97, 105, 109, 101, 100]⟩, .string ⟨#[101, 120, 112, 105, 114, 101, 100]⟩, .string ⟨#[116, 97, 120]⟩, .string ⟨#[111, 102, 102, 115, 101, 116]⟩, .string ⟨#[110, 101, 116]⟩, .string ⟨#[99, 111, 109, 109, 105, 115, 115, 105, 111, 110]⟩, .string ⟨#[100, 117, 101]⟩] 9))
  go_enter Try.func6, Try.ntmps6
  go_wp2_with fail
  clear l1
  have B1 : Blk ((w.alloc (.cells cs 23)).alloc (.cells #[.string ⟨#[115, 97, 108, 101, 115]⟩, .string ⟨#[99, 97, 110, 99, 101, 108, 115]⟩, .string ⟨#[97, 100, 100, 111, 110, 115]⟩, .string ⟨#[105, 110, 115, 116, 97, 110, 116, 115]⟩, .string ⟨#[114, 101, 116, 117, 114, 110, 115]⟩, .string ⟨#[102, 117, 110, 100, 115]⟩, .string ⟨#[114, 101, 115, 101, 114, 118, 101]⟩, .string ⟨#[112, 114, 105, 122, 101, 115]⟩, .string ⟨#[99, 97, 114, 114, 105, 101, 100]⟩, .string ⟨#[98, 114, 101, 97, 107, 97, 103, 101]⟩, .string ⟨#[99, 108, 97, 105, 109, 101, 100]⟩, .string ⟨#[101, 120, 112, 105, 114, 101, 100]⟩, .string ⟨#[116, 97, 120]⟩, .string ⟨#[111, 102, 102, 115, 101, 116]⟩, .string ⟨#[110, 101, 116]⟩, .string ⟨#[99, 111, 109, 109, 105, 115, 115, 105, 111, 110]⟩, .string ⟨#[100, 117, 101]⟩] 9)) w.heap.size 23 cs := heap_alloc2_old _ _ _
  have SN : Sl ((w.alloc (.cells cs 23)).alloc (.cells #[.string ⟨#[115, 97, 108, 101, 115]⟩, .string ⟨#[99, 97, 110, 99, 101, 108, 115]⟩, .string ⟨#[97, 100, 100, 111, 110, 115]⟩, .string ⟨#[105, 110, 115, 116, 97, 110, 116, 115]⟩, .string ⟨#[114, 101, 116, 117, 114, 110, 115]⟩, .string ⟨#[102, 117, 110, 100, 115]⟩, .string ⟨#[114, 101, 115, 101, 114, 118, 101]⟩, .string ⟨#[112, 114, 105, 122, 101, 115]⟩, .string ⟨#[99, 97, 114, 114, 105, 101, 100]⟩, .string ⟨#[98, 114, 101, 97, 107, 97, 103, 101]⟩, .string ⟨#[99, 108, 97, 105, 109, 101, 100]⟩, .string ⟨#[101, 120, 112, 105, 114, 101, 100]⟩, .string ⟨#[116, 97, 120]⟩, .string ⟨#[111, 102, 102, 115, 101, 116]⟩, .string ⟨#[110, 101, 116]⟩, .string ⟨#[99, 111, 109, 109, 105, 115, 115, 105, 111, 110]⟩, .string ⟨#[100, 117, 101]⟩] 9)) 1 (some ⟨w.heap.size + 1, 0, none⟩) 17 (strs nameL) := new_row (w.alloc (.cells cs 23)) (strs nameL) 9 17 _ rfl (by simp)
  have KW : Below w.heap.size w ((w.alloc (.cells cs 23)).alloc (.cells #[.string ⟨#[115, 97, 108, 101, 115]⟩, .string ⟨#[99, 97, 110, 99, 101, 108, 115]⟩, .string ⟨#[97, 100, 100, 111, 110, 115]⟩, .string ⟨#[105, 110, 115, 116, 97, 110, 116, 115]⟩, .string ⟨#[114, 101, 116, 117, 114, 110, 115]⟩, .string ⟨#[102, 117, 110, 100, 115]⟩, .string ⟨#[114, 101, 115, 101, 114, 118, 101]⟩, .string ⟨#[112, 114, 105, 122, 101, 115]⟩, .string ⟨#[99, 97, 114, 114, 105, 101, 100]⟩, .string ⟨#[98, 114, 101, 97, 107, 97, 103, 101]⟩, .string ⟨#[99, 108, 97, 105, 109, 101, 100]⟩, .string ⟨#[101, 120, 112, 105, 114, 101, 100]⟩, .string ⟨#[116, 97, 120]⟩, .string ⟨#[111, 102, 102, 115, 101, 116]⟩, .string ⟨#[110, 101, 116]⟩, .string ⟨#[99, 111, 109, 109, 105, 115, 115, 105, 111, 110]⟩, .string ⟨#[100, 117, 101]⟩] 9)) := below2
  generalize (w.alloc (.cells cs 23)).alloc (.cells #[.string ⟨#[115, 97, 108, 101, 115]⟩, .string ⟨#[99, 97, 110, 99, 101, 108, 115]⟩, .string ⟨#[97, 100, 100, 111, 110, 115]⟩, .string ⟨#[105, 110, 115, 116, 97, 110, 116, 115]⟩, .string ⟨#[114, 101, 116, 117, 114, 110, 115]⟩, .string ⟨#[102, 117, 110, 100, 115]⟩, .string ⟨#[114, 101, 115, 101, 114, 118, 101]⟩, .string ⟨#[112, 114, 105, 122, 101, 115]⟩, .string ⟨#[99, 97, 114, 114, 105, 101, 100]⟩, .string ⟨#[98, 114, 101, 97, 107, 97, 103, 101]⟩, .string ⟨#[99, 108, 97, 105, 109, 101, 100]⟩, .string ⟨#[101, 120, 112, 105, 114, 101, 100]⟩, .string ⟨#[116, 97, 120]⟩, .string ⟨#[111, 102, 102, 115, 101, 116]⟩, .string ⟨#[110, 101, 116]⟩, .string ⟨#[99, 111, 109, 109, 105, 115, 115, 105, 111, 110]⟩, .string ⟨#[100, 117, 101]⟩] 9) = W at *
  refine (HF.out.set _).mono ?_
  rintro e w1 ⟨rfl, b1⟩
  have C1 := B1.below b1 B1.lt
  have SN1 := SN.below b1 (Nat.le_refl _)
  have KW1 := KW.trans (b1.mono KW.size)
  have lt1 := C1.lt
  have st := store_tot (cs := ds) (Blk.new w1 23 #[.int .i64 0, .int .i64 0, .int .i64 0, .int .i64 0, .int .i64 0, .int .i64 0, .int .i64 0, .int .i64 0, .int .i64 0, .int .i64 0, .int .i64 0, .int .i64 0, .int .i64 0, .int .i64 0, .int .i64 0, .int .i64 0, .int .i64 0]) rfl HF.out.hU.size HF.out.one
  have D1 := Lib.hid (Blk_setRow (Blk.new w1 23 #[.int .i64 0, .int .i64 0, .int .i64 0, .int .i64 0, .int .i64 0, .int .i64 0, .int .i64 0, .int .i64 0, .int .i64 0, .int .i64 0, .int .i64 0, .int .i64 0, .int .i64 0, .int .i64 0, .int .i64 0, .int .i64 0, .int .i64 0]) ds)
  have C2 : Hid (Blk ((w1.alloc (.cells #[.int .i64 0, .int .i64 0, .int .i64 0, .int .i64 0, .int .i64 0, .int .i64 0, .int .i64 0, .int .i64 0, .int .i64 0, .int .i64 0, .int .i64 0, .int .i64 0, .int .i64 0, .int .i64 0, .int .i64 0, .int .i64 0, .int .i64 0] 23)).setRow w1.heap.size ds) w.heap.size 23 cs) := (setRow_other (w1.alloc (.cells #[.int .i64 0, .int .i64 0, .int .i64 0, .int .i64 0, .int .i64 0, .int .i64 0, .int .i64 0, .int .i64 0, .int .i64 0, .int .i64 0, .int .i64 0, .int .i64 0, .int .i64 0, .int .i64 0, .int .i64 0, .int .i64 0, .int .i64 0] 23)) w1.heap.size w.heap.size ds (by omega)).trans (C1.alloc _)
  have BB : Hid (Below w1.heap.size w1 ((w1.alloc (.cells #[.int .i64 0, .int .i64 0, .int .i64 0, .int .i64 0, .int .i64 0, .int .i64 0, .int .i64 0, .int .i64 0, .int .i64 0, .int .i64 0, .int .i64 0, .int .i64 0, .int .i64 0, .int .i64 0, .int .i64 0, .int .i64 0, .int .i64 0] 23)).setRow w1.heap.size ds)) := bel_setRow ((Below.refl _ _).alloc (Nat.le_refl _) _) (Nat.le_refl _) _
  have SN2 := Lib.hid (SN1.below BB.out (Nat.le_refl _))
  have KW2 := Lib.hid (KW1.trans (BB.out.mono KW1.size))
  clear B1 SN KW b1 C1 SN1 KW1
  have l3 := load_tot D1.out HF.out.hU.size
  go_wp2_with fail
  clear st l3
  generalize (w1.alloc (.cells #[.int .i64 0, .int .i64 0, .int .i64 0, .int .i64 0, .int .i64 0, .int .i64 0, .int .i64 0, .int .i64 0, .int .i64 0, .int .i64 0, .int .i64 0, .int .i64 0, .int .i64 0, .int .i64 0, .int .i64 0, .int .i64 0, .int .i64 0] 23)).setRow w1.heap.size ds = W3 at *
  refine (HF.out.hU.fields _).mono ?_
  rintro e w4 ⟨A4, c4, rfl, s4, b4⟩
  have C4 := Lib.hid (C2.out.below b4 C2.out.lt)
  have D4 := Lib.hid (D1.out.below b4 D1.out.lt)
  have SN4 := Lib.hid (SN2.out.below b4 (Nat.le_refl _))
  have KW4 := Lib.hid (KW2.out.trans (b4.mono KW2.out.size))
  have F4 := Lib.hid s4
  clear s4 b4 C2 D1 SN2 KW2 BB
  have l1 := KL.out _ C4.out
  have l3 := load_tot D4.out HF.out.hU.size
  go_wp2_with fail
  clear l1 l3
  refine (CA.out _).mono ?_
  rintro e w5 ⟨A5, c5, rfl, s5, b5⟩
  have l1 := KL.out _ (C4.out.below b5 C4.out.lt)
  have l3 := load_tot (D4.out.below b5 D4.out.lt) HF.out.hU.size
  have q1 := HQ.out
  have SN5 := Lib.hid (SN4.out.below b5 (Nat.le_refl _))
  have KW5 := Lib.hid (KW4.out.trans (b5.mono KW4.out.size))
  have F5 := F4.out.below b5 (Nat.le_refl _)
  have S5 := Lib.hid s5
  obtain ⟨b6, o6, rfl, c6⟩ := F5.open_ (by omega)
  have d6 := c6 k (.int .i64 n) (by simp only [ints, List.getElem?_map, HF.out.at_]; rfl)
  have hnn : (n != n) = false := by simp
  clear s5 b5 F5 c6 C4 D4 SN4 KW4 F4 KL HQ CA
  go_wp2_with fail
  refine (awake_any _).mono ?_
  rintro e w8 ⟨rfl, b8⟩
  have G8 := Lib.hid (KW5.out.trans (b8.mono KW5.out.size))
  clear b8
  go_wp2_with fail
  go_ret
  exact ⟨rfl, G8.out⟩

set_option maxHeartbeats 2000000 in
theorem nam_other (cs ds : Array Value) (xs ys : List Int) (a n : Int) (k : Nat) (w : World) (ha : 0 ≤ a) (hb : a ≤ 255) (hk : k < 17) (hw : a.tmod 17 = (k : Int)) (nm : ByteArray) (hnm : nameL[k]? = some nm) (H : NamF cs ds xs ys k n [nm] false) :
    Calls Try.prog 6 #[.agg cs, .int .u8 a, .int .i64 n] w fun e w' => e = .returned (.bool true) ∧ Below w.heap.size w w' := by
  have hki : (k : Int) < 17 := by omega
  have hk0 : (0 : Int) ≤ (k : Int) := by omega
  have HF := Lib.hid H
  have KL : Hid (∀ W, Blk W w.heap.size 23 cs → (loadRow 23 (.pointer (some ⟨w.heap.size, 0, none⟩))).run Try.prog W = .ok (.agg cs) W) := fun W hb => load_tot hb HF.out.hT.size
  have HQ : Hid (∀ W, (binOp .eql 23 (.agg cs) (.agg ds)).run Try.prog W = .ok (.bool false) W) := fun W => by rw [← HF.out.hq]; exact HF.out.hT.eql HF.out.hU W
  have CA : Hid (∀ W, Calls Try.prog 16 #[.agg cs, .agg ds] W (RetL ([nm]).length (strs ([nm])) W)) := fun W => by rw [← HF.out.hD]; exact compare_any cs ds xs ys W HF.out.hT HF.out.hU
  clear H
  have l1 := KL.out _ (heap_alloc2_old w (.cells cs 23) (.cells #[.string ⟨#[115, 97, 108, 101, 115]⟩, .string ⟨#[99, 97, 110, 99, 101, 108, 115]⟩, .string ⟨#[97, 100, 100, 111, 110, 115]⟩, .string ⟨#[105, 110, 115, 116, 97, 110, 116, 115]⟩, .string ⟨#[114, 101, 116, 117, 114, 110, 115]⟩, .string ⟨#[102, 117, 110, 100, 115]⟩, .string ⟨#[114, 101, 115, 101, 114, 118, 101]⟩, .string ⟨#[112, 114, 105, 122, 101, 115]⟩, .string ⟨#[99, 97, 114, 114, 105, 101, 100]⟩, .string ⟨#[98, 114, 101, 97, 107, 97, 103, 101]⟩, .string ⟨#[99, 108, 97, 105, 109, 101, 100]⟩, .string ⟨#[101, 120, 112, 105, 114, 101, 100]⟩, .string ⟨#[116, 97, 120]⟩, .string ⟨#[111, 102, 102, 115, 101, 116]⟩, .string ⟨#[110, 101, 116]⟩, .string ⟨#[99, 111, 109, 109, 105, 115, 115, 105, 111, 110]⟩, .string ⟨#[100, 117, 101]⟩] 9))
  go_enter Try.func6, Try.ntmps6
  go_wp2_with fail
  clear l1
  have B1 : Blk ((w.alloc (.cells cs 23)).alloc (.cells #[.string ⟨#[115, 97, 108, 101, 115]⟩, .string ⟨#[99, 97, 110, 99, 101, 108, 115]⟩, .string ⟨#[97, 100, 100, 111, 110, 115]⟩, .string ⟨#[105, 110, 115, 116, 97, 110, 116, 115]⟩, .string ⟨#[114, 101, 116, 117, 114, 110, 115]⟩, .string ⟨#[102, 117, 110, 100, 115]⟩, .string ⟨#[114, 101, 115, 101, 114, 118, 101]⟩, .string ⟨#[112, 114, 105, 122, 101, 115]⟩, .string ⟨#[99, 97, 114, 114, 105, 101, 100]⟩, .string ⟨#[98, 114, 101, 97, 107, 97, 103, 101]⟩, .string ⟨#[99, 108, 97, 105, 109, 101, 100]⟩, .string ⟨#[101, 120, 112, 105, 114, 101, 100]⟩, .string ⟨#[116, 97, 120]⟩, .string ⟨#[111, 102, 102, 115, 101, 116]⟩, .string ⟨#[110, 101, 116]⟩, .string ⟨#[99, 111, 109, 109, 105, 115, 115, 105, 111, 110]⟩, .string ⟨#[100, 117, 101]⟩] 9)) w.heap.size 23 cs := heap_alloc2_old _ _ _
  have SN : Sl ((w.alloc (.cells cs 23)).alloc (.cells #[.string ⟨#[115, 97, 108, 101, 115]⟩, .string ⟨#[99, 97, 110, 99, 101, 108, 115]⟩, .string ⟨#[97, 100, 100, 111, 110, 115]⟩, .string ⟨#[105, 110, 115, 116, 97, 110, 116, 115]⟩, .string ⟨#[114, 101, 116, 117, 114, 110, 115]⟩, .string ⟨#[102, 117, 110, 100, 115]⟩, .string ⟨#[114, 101, 115, 101, 114, 118, 101]⟩, .string ⟨#[112, 114, 105, 122, 101, 115]⟩, .string ⟨#[99, 97, 114, 114, 105, 101, 100]⟩, .string ⟨#[98, 114, 101, 97, 107, 97, 103, 101]⟩, .string ⟨#[99, 108, 97, 105, 109, 101, 100]⟩, .string ⟨#[101, 120, 112, 105, 114, 101, 100]⟩, .string ⟨#[116, 97, 120]⟩, .string ⟨#[111, 102, 102, 115, 101, 116]⟩, .string ⟨#[110, 101, 116]⟩, .string ⟨#[99, 111, 109, 109, 105, 115, 115, 105, 111, 110]⟩, .string ⟨#[100, 117, 101]⟩] 9)) 1 (some ⟨w.heap.size + 1, 0, none⟩) 17 (strs nameL) := new_row (w.alloc (.cells cs 23)) (strs nameL) 9 17 _ rfl (by simp)
  have KW : Below w.heap.size w ((w.alloc (.cells cs 23)).alloc (.cells #[.string ⟨#[115, 97, 108, 101, 115]⟩, .string ⟨#[99, 97, 110, 99, 101, 108, 115]⟩, .string ⟨#[97, 100, 100, 111, 110, 115]⟩, .string ⟨#[105, 110, 115, 116, 97, 110, 116, 115]⟩, .string ⟨#[114, 101, 116, 117, 114, 110, 115]⟩, .string ⟨#[102, 117, 110, 100, 115]⟩, .string ⟨#[114, 101, 115, 101, 114, 118, 101]⟩, .string ⟨#[112, 114, 105, 122, 101, 115]⟩, .string ⟨#[99, 97, 114, 114, 105, 101, 100]⟩, .string ⟨#[98, 114, 101, 97, 107, 97, 103, 101]⟩, .string ⟨#[99, 108, 97, 105, 109, 101, 100]⟩, .string ⟨#[101, 120, 112, 105, 114, 101, 100]⟩, .string ⟨#[116, 97, 120]⟩, .string ⟨#[111, 102, 102, 115, 101, 116]⟩, .string ⟨#[110, 101, 116]⟩, .string ⟨#[99, 111, 109, 109, 105, 115, 115, 105, 111, 110]⟩, .string ⟨#[100, 117, 101]⟩] 9)) := below2
  generalize (w.alloc (.cells cs 23)).alloc (.cells #[.string ⟨#[115, 97, 108, 101, 115]⟩, .string ⟨#[99, 97, 110, 99, 101, 108, 115]⟩, .string ⟨#[97, 100, 100, 111, 110, 115]⟩, .string ⟨#[105, 110, 115, 116, 97, 110, 116, 115]⟩, .string ⟨#[114, 101, 116, 117, 114, 110, 115]⟩, .string ⟨#[102, 117, 110, 100, 115]⟩, .string ⟨#[114, 101, 115, 101, 114, 118, 101]⟩, .string ⟨#[112, 114, 105, 122, 101, 115]⟩, .string ⟨#[99, 97, 114, 114, 105, 101, 100]⟩, .string ⟨#[98, 114, 101, 97, 107, 97, 103, 101]⟩, .string ⟨#[99, 108, 97, 105, 109, 101, 100]⟩, .string ⟨#[101, 120, 112, 105, 114, 101, 100]⟩, .string ⟨#[116, 97, 120]⟩, .string ⟨#[111, 102, 102, 115, 101, 116]⟩, .string ⟨#[110, 101, 116]⟩, .string ⟨#[99, 111, 109, 109, 105, 115, 115, 105, 111, 110]⟩, .string ⟨#[100, 117, 101]⟩] 9) = W at *
  refine (HF.out.set _).mono ?_
  rintro e w1 ⟨rfl, b1⟩
  have C1 := B1.below b1 B1.lt
  have SN1 := SN.below b1 (Nat.le_refl _)
  have KW1 := KW.trans (b1.mono KW.size)
  have lt1 := C1.lt
  have st := store_tot (cs := ds) (Blk.new w1 23 #[.int .i64 0, .int .i64 0, .int .i64 0, .int .i64 0, .int .i64 0, .int .i64 0, .int .i64 0, .int .i64 0, .int .i64 0, .int .i64 0, .int .i64 0, .int .i64 0, .int .i64 0, .int .i64 0, .int .i64 0, .int .i64 0, .int .i64 0]) rfl HF.out.hU.size HF.out.one
  have D1 := Lib.hid (Blk_setRow (Blk.new w1 23 #[.int .i64 0, .int .i64 0, .int .i64 0, .int .i64 0, .int .i64 0, .int .i64 0, .int .i64 0, .int .i64 0, .int .i64 0, .int .i64 0, .int .i64 0, .int .i64 0, .int .i64 0, .int .i64 0, .int .i64 0, .int .i64 0, .int .i64 0]) ds)
  have C2 : Hid (Blk ((w1.alloc (.cells #[.int .i64 0, .int .i64 0, .int .i64 0, .int .i64 0, .int .i64 0, .int .i64 0, .int .i64 0, .int .i64 0, .int .i64 0, .int .i64 0, .int .i64 0, .int .i64 0, .int .i64 0, .int .i64 0, .int .i64 0, .int .i64 0, .int .i64 0] 23)).setRow w1.heap.size ds) w.heap.size 23 cs) := (setRow_other (w1.alloc (.cells #[.int .i64 0, .int .i64 0, .int .i64 0, .int .i64 0, .int .i64 0, .int .i64 0, .int .i64 0, .int .i64 0, .int .i64 0, .int .i64 0, .int .i64 0, .int .i64 0, .int .i64 0, .int .i64 0, .int .i64 0, .int .i64 0, .int .i64 0] 23)) w1.heap.size w.heap.size ds (by omega)).trans (C1.alloc _)
  have BB : Hid (Below w1.heap.size w1 ((w1.alloc (.cells #[.int .i64 0, .int .i64 0, .int .i64 0, .int .i64 0, .int .i64 0, .int .i64 0, .int .i64 0, .int .i64 0, .int .i64 0, .int .i64 0, .int .i64 0, .int .i64 0, .int .i64 0, .int .i64 0, .int .i64 0, .int .i64 0, .int .i64 0] 23)).setRow w1.heap.size ds)) := bel_setRow ((Below.refl _ _).alloc (Nat.le_refl _) _) (Nat.le_refl _) _
  have SN2 := Lib.hid (SN1.below BB.out (Nat.le_refl _))
  have KW2 := Lib.hid (KW1.trans (BB.out.mono KW1.size))
  clear B1 SN KW b1 C1 SN1 KW1
  have l3 := load_tot D1.out HF.out.hU.size
  go_wp2_with fail
  clear st l3
  generalize (w1.alloc (.cells #[.int .i64 0, .int .i64 0, .int .i64 0, .int .i64 0, .int .i64 0, .int .i64 0, .int .i64 0, .int .i64 0, .int .i64 0, .int .i64 0, .int .i64 0, .int .i64 0, .int .i64 0, .int .i64 0, .int .i64 0, .int .i64 0, .int .i64 0] 23)).setRow w1.heap.size ds = W3 at *
  refine (HF.out.hU.fields _).mono ?_
  rintro e w4 ⟨A4, c4, rfl, s4, b4⟩
  have C4 := Lib.hid (C2.out.below b4 C2.out.lt)
  have D4 := Lib.hid (D1.out.below b4 D1.out.lt)
  have SN4 := Lib.hid (SN2.out.below b4 (Nat.le_refl _))
  have KW4 := Lib.hid (KW2.out.trans (b4.mono KW2.out.size))
  have F4 := Lib.hid s4
  clear s4 b4 C2 D1 SN2 KW2 BB
  have l1 := KL.out _ C4.out
  have l3 := load_tot D4.out HF.out.hU.size
  go_wp2_with fail
  clear l1 l3
  refine (CA.out _).mono ?_
  rintro e w5 ⟨A5, c5, rfl, s5, b5⟩
  have l1 := KL.out _ (C4.out.below b5 C4.out.lt)
  have l3 := load_tot (D4.out.below b5 D4.out.lt) HF.out.hU.size
  have q1 := HQ.out
  have SN5 := Lib.hid (SN4.out.below b5 (Nat.le_refl _))
  have KW5 := Lib.hid (KW4.out.trans (b5.mono KW4.out.size))
  have F5 := F4.out.below b5 (Nat.le_refl _)
  have S5 := Lib.hid s5
  obtain ⟨b6, o6, rfl, c6⟩ := F5.open_ (by omega)
  have d6 := c6 k (.int .i64 n) (by simp only [ints, List.getElem?_map, HF.out.at_]; rfl)
  have hnn : (n != n) = false := by simp
  clear s5 b5 F5 c6 C4 D4 SN4 KW4 F4 KL HQ CA
  obtain ⟨b7, o7, rfl, c7⟩ := S5.out.open_ (by simp)
  obtain ⟨b8, o8, e8, c8⟩ := SN5.out.open_ (by omega)
  simp only [Option.some.injEq, Addr.mk.injEq] at e8
  obtain ⟨rfl, rfl, _⟩ := e8
  have d7 : w5.cell? ⟨b7, o7, none⟩ = some (.string nm) := c7 0 (.string nm) rfl
  have d8 : w5.cell? ⟨w.heap.size + 1, k, none⟩ = some (.string nm) := by
    have := c8 k (.string nm) (by simp only [strs, List.getElem?_map, hnm]; rfl)
    rwa [Nat.zero_add] at this
  have KC : Hid (∀ W', Below w5.heap.size w5 W' → W'.cell? ⟨b7, o7, none⟩ = some (.string nm) ∧ W'.cell? ⟨w.heap.size + 1, k, none⟩ = some (.string nm)) := fun W' hb =>
    ⟨(hb.cell (p := ⟨b7, o7, none⟩) (World.block_lt_of_cell? _ _ d7)).trans d7, (hb.cell (p := ⟨w.heap.size + 1, k, none⟩) (World.block_lt_of_cell? _ _ d8)).trans d8⟩
  clear c7 c8 S5 SN5
  go_wp2_with fail
  clear l1 l3 q1 d6
  go_region_held3 (fun W' => W'.cell? ⟨b7, o7, none⟩ = some (.string nm) ∧ W'.cell? ⟨w.heap.size + 1, k, none⟩ = some (.string nm))
    (first
      | exact KC.out _ (Below.refl _ _).drew
      | exact KC.out _ g8)
    (first
      | (go_at_call 15; refine (awake_any _).mono ?_; rintro e w8 ⟨rfl, b8⟩; have g8 : Below w5.heap.size w5 w8 := (Below.refl _ w5).drew.trans (b8.mono (by simp))))
  have G8 := Lib.hid (KW5.out.trans (g8.mono KW5.out.size))
  go_wp2_with fail
  go_ret
  exact ⟨rfl, G8.out⟩

theorem names_walk (cs : Array Value) (xs : List Int) (a n : Int) (w : World) (h : Tot cs xs) (ha : 0 ≤ a) (hb : a ≤ 255) :
    Calls Try.prog 6 #[.agg cs, .int .u8 a, .int .i64 n] w fun e w' => e = .returned (.bool true) ∧ Below w.heap.size w w' := by
  obtain ⟨f, e, rfl⟩ := h
  obtain ⟨k, hk, hw⟩ : ∃ k : Nat, k < 17 ∧ a.tmod 17 = (k : Int) := ⟨(a.tmod 17).toNat, by have := Int.tmod_lt_of_pos a (b := 17) (by omega); have := Int.tmod_nonneg 17 ha; omega, by have := Int.tmod_nonneg 17 ha; omega⟩
  have hn : k < nameL.length := by rw [nameL_len]; exact hk
  have hT : Tot cs (flist f) := ⟨f, e, rfl⟩
  obtain ⟨ds, hds⟩ : ∃ ds, Value.agg ds = tot (upd f k n) := ⟨_, rfl⟩
  have hU : Tot ds (flist (upd f k n)) := ⟨_, hds, rfl⟩
  have ho : ds.toList.all (·.oneCell') = true := by injection hds with hds; rw [hds]; rfl
  have hs : ∀ W, Calls Try.prog 18 #[.agg cs, .int .i64 (k : Int), .int .i64 n] W (RetT (.agg ds) W) := fun W => by rw [e, hds]; exact set_any f k n W hk
  have hat : (flist (upd f k n))[k]? = some n := by
    rw [List.getElem?_eq_getElem (by rw [flist_len]; exact hk), flist_at _ _ hk]
    simp [upd]
  have hd := diff_upd f k n hk hn 17 (Nat.le_refl _)
  by_cases c : f k = n
  · rw [if_neg (by simp [c])] at hd
    exact nam_same cs ds _ _ a n k w ha hb hk hw ⟨hT, hU, ho, hs, hat, hd, by simp [upd_same f k n c]⟩
  · rw [if_pos ⟨hk, c⟩] at hd
    refine nam_other cs ds _ _ a n k w ha hb hk hw nameL[k] (List.getElem?_eq_getElem hn) ⟨hT, hU, ho, hs, hat, hd, ?_⟩
    apply decide_eq_false
    intro he
    have := congrArg (fun l : List Int => l[k]?) he
    simp only [hat] at this
    rw [List.getElem?_eq_getElem (by rw [flist_len]; exact hk), flist_at _ _ hk] at this
    exact c (by simpa using this)
end Go.Proofs.Ytlfcbfaoecdmoaa.Rc
