/-
  The walks of ReconcileFields and ReconcileCompares: each returns true, and changes nothing that was there. Conditions: the arguments are totals.
-/
import Derived.Test.YtlfcbfaoecdmoaaRcAwake
namespace Go.Proofs.Ytlfcbfaoecdmoaa.Rc
open Go.RowKit Go.Proofs.Ytlfcbfaoecdmoaa.Mem Go.Proofs.Ytlfcbfaoecdmoaa.Eqs Go.Proofs.Ytlfcbfaoecdmoaa.Jr
attribute [local go_sem ↓] exec_load_tot

theorem ints13_self (xs : List Int) (n : Nat) (A B : Option Addr) (ca cb : Nat) (w : World) (ha : Sl w 1 A n (ints xs)) (hb : Sl w 1 B n (ints xs)) (hn : n ≤ 9223372036854775807) :
    Calls Try.prog 9 #[.slice A n ca, .slice B n cb] w fun e w' => e = .returned (.bool true) ∧ Below w.heap.size w w' :=
  (ints13 xs xs n n A B ca cb w ha hb hn).mono fun e w' ⟨he, q, hq⟩ => ⟨he.trans (ret_bool (by simp)), by rw [hq]; exact below_of_drewN _ _ _⟩
theorem texts54_self (xs : List ByteArray) (n : Nat) (A B : Option Addr) (ca cb : Nat) (w : World) (ha : Sl w 1 A n (strs xs)) (hb : Sl w 1 B n (strs xs)) (hn : n ≤ 9223372036854775807) :
    Calls Try.prog 12 #[.slice A n ca, .slice B n cb] w fun e w' => e = .returned (.bool true) ∧ Below w.heap.size w w' :=
  (texts54 xs xs n n A B ca cb w ha hb hn).mono fun e w' ⟨he, q, hq⟩ => ⟨he.trans (ret_bool (by simp)), by rw [hq]; exact below_of_drewN _ _ _⟩

set_option maxHeartbeats 2000000 in
theorem fields_walk (cs : Array Value) (xs : List Int) (w : World) (h : Tot cs xs) :
    Calls Try.prog 3 #[.agg cs] w fun e w' => e = .returned (.bool true) ∧ Below w.heap.size w w' := by
  have HT := Lib.hid h
  clear h
  obtain ⟨W, hW⟩ : ∃ W, W = w.alloc (.cells cs 23) := ⟨_, rfl⟩
  have B1 : Blk W w.heap.size 23 cs := by rw [hW]; exact Blk.new _ _ _
  have BW : Below w.heap.size w W := by rw [hW]; exact (Below.refl _ _).alloc (Nat.le_refl _) _
  have KL : Hid (∀ W', Below W.heap.size W W' → (loadRow 23 (.pointer (some ⟨w.heap.size, 0, none⟩))).run Try.prog W' = .ok (.agg cs) W') := fun W' hb => load_tot (B1.below hb B1.lt) HT.out.size
  have KW := Lib.hid BW
  have HW := Lib.hid hW
  clear hW B1 BW
  go_enter Try.func3, Try.ntmps3
  go_wp2_with fail
  rw [← HW.out]
  clear HW
  have l0 := KL.out W (Below.refl _ _)
  go_region_held3 (fun W' => (loadRow 23 (.pointer (some ⟨w.heap.size, 0, none⟩))).run Try.prog W' = .ok (.agg cs) W')
    (first
      | exact KL.out _ (Below.refl _ _).drew
      | exact KL.out _ g1
      | exact KL.out _ g2
      | exact KL.out _ g3
      | exact KL.out _ g4
      | exact KL.out _ g5
      | exact KL.out _ g6
      | exact KL.out _ g7)
    (first
      | (go_at_call 10; refine (HT.out.fields _).mono ?_; rintro e w1 ⟨A1, c1, rfl, s1, b1⟩; have g1 : Below W.heap.size W w1 := (Below.refl _ W).drew.trans (b1.mono (by simp)))
      | (go_at_call 11; refine (HT.out.fieldsR _).mono ?_; rintro e w2 ⟨A2, c2, rfl, s2, b2⟩; have g2 : Below W.heap.size W w2 := g1.trans (b2.mono g1.size); have t1 := s1.below b2 (Nat.le_refl _))
      | (go_at_call 9; refine (ints13_self xs _ _ _ _ _ _ t1 s2 (by decide)).mono ?_; rintro e w3 ⟨rfl, b3⟩; have g3 : Below W.heap.size W w3 := g2.trans (b3.mono g2.size))
      | (go_at_call 13; refine (names_any _).mono ?_; rintro e w4 ⟨A4, c4, rfl, s4, b4⟩; have g4 : Below W.heap.size W w4 := g3.trans (b4.mono g3.size))
      | (go_at_call 14; refine (namesR_any _).mono ?_; rintro e w5 ⟨A5, c5, rfl, s5, b5⟩; have g5 : Below W.heap.size W w5 := g4.trans (b5.mono g4.size); have t4 := s4.below b5 (Nat.le_refl _))
      | (go_at_call 12; refine (texts54_self nameL _ _ _ _ _ _ t4 s5 (by decide)).mono ?_; rintro e w6 ⟨rfl, b6⟩; have g6 : Below W.heap.size W w6 := g5.trans (b6.mono g5.size))
      | (go_at_call 15; refine (awake_any _).mono ?_; rintro e w7 ⟨rfl, b7⟩; have g7 : Below W.heap.size W w7 := g6.trans (b7.mono g6.size)))
  have G := Lib.hid (KW.out.trans (g7.mono KW.out.size))
  go_wp2_with fail
  go_ret
  exact ⟨rfl, G.out⟩

set_option maxHeartbeats 2000000 in
theorem compares_walk (cs ds : Array Value) (xs ys : List Int) (w : World) (h : Tot cs xs) (g : Tot ds ys) :
    Calls Try.prog 4 #[.agg cs, .agg ds] w fun e w' => e = .returned (.bool true) ∧ Below w.heap.size w w' := by
  have HT := Lib.hid h
  have HU := Lib.hid g
  have LD : Hid ((diff xs ys 17).length ≤ 9223372036854775807) := by have := diff_le xs ys 17; show _ ≤ _; omega
  clear h g
  obtain ⟨W, hW⟩ : ∃ W, W = (w.alloc (.cells cs 23)).alloc (.cells ds 23) := ⟨_, rfl⟩
  have B1 : Blk W w.heap.size 23 cs := by rw [hW]; exact heap_alloc2_old _ _ _
  have B2 : Blk W (w.heap.size + 1) 23 ds := by rw [hW]; exact heap_alloc2_new _ _ _
  have BW : Below w.heap.size w W := by rw [hW]; exact ((Below.refl _ _).alloc (Nat.le_refl _) _).alloc (by simp) _
  have KL : Hid (∀ W', Below W.heap.size W W' → (loadRow 23 (.pointer (some ⟨w.heap.size, 0, none⟩))).run Try.prog W' = .ok (.agg cs) W' ∧ (loadRow 23 (.pointer (some ⟨w.heap.size + 1, 0, none⟩))).run Try.prog W' = .ok (.agg ds) W') :=
    fun W' hb => ⟨load_tot (B1.below hb B1.lt) HT.out.size, load_tot (B2.below hb B2.lt) HU.out.size⟩
  have KW := Lib.hid BW
  have HW := Lib.hid hW
  clear hW B1 B2 BW
  go_enter Try.func4, Try.ntmps4
  go_wp2_with fail
  rw [← HW.out]
  clear HW
  have l0 := KL.out W (Below.refl _ _)
  go_region_held3 (fun W' => (loadRow 23 (.pointer (some ⟨w.heap.size, 0, none⟩))).run Try.prog W' = .ok (.agg cs) W' ∧ (loadRow 23 (.pointer (some ⟨w.heap.size + 1, 0, none⟩))).run Try.prog W' = .ok (.agg ds) W')
    (first
      | exact KL.out _ (Below.refl _ _).drew
      | exact KL.out _ g1
      | exact KL.out _ g2
      | exact KL.out _ g3
      | exact KL.out _ g4)
    (first
      | (go_at_call 16; refine (compare_any _ _ _ _ _ HT.out HU.out).mono ?_; rintro e w1 ⟨A1, c1, rfl, s1, b1⟩; have g1 : Below W.heap.size W w1 := (Below.refl _ W).drew.trans (b1.mono (by simp)))
      | (go_at_call 17; refine (compareR_any _ _ _ _ _ HT.out HU.out).mono ?_; rintro e w2 ⟨A2, c2, rfl, s2, b2⟩; have g2 : Below W.heap.size W w2 := g1.trans (b2.mono g1.size); have t1 := s1.below b2 (Nat.le_refl _))
      | (go_at_call 12; refine (texts54_self _ _ _ _ _ _ _ t1 s2 LD.out).mono ?_; rintro e w3 ⟨rfl, b3⟩; have g3 : Below W.heap.size W w3 := g2.trans (b3.mono g2.size))
      | (go_at_call 15; refine (awake_any _).mono ?_; rintro e w4 ⟨rfl, b4⟩; have g4 : Below W.heap.size W w4 := g3.trans (b4.mono g3.size)))
  have G := Lib.hid (KW.out.trans (g4.mono KW.out.size))
  go_wp2_with fail
  go_ret
  exact ⟨rfl, G.out⟩
end Go.Proofs.Ytlfcbfaoecdmoaa.Rc
