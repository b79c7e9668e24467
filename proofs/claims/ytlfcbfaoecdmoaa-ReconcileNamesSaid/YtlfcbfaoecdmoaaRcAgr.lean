/-
  The walk of ReconcileAgrees: it returns true, and changes nothing that was there. Conditions: the arguments are totals.
-/
import Derived.Test.YtlfcbfaoecdmoaaRcLaws
namespace Go.Proofs.Ytlfcbfaoecdmoaa.Rc
open Go.RowKit Go.Proofs.Ytlfcbfaoecdmoaa.Mem Go.Proofs.Ytlfcbfaoecdmoaa.Eqs Go.Proofs.Ytlfcbfaoecdmoaa.Jr
attribute [local go_sem ↓] exec_load_tot

theorem diff_swap (xs ys : List Int) (k : Nat) : diff xs ys k = diff ys xs k := by
  induction k with
  | zero => rfl
  | succ k ih =>
    rw [diff, diff, ih]
    by_cases h : xs.getD k 0 = ys.getD k 0
    · rw [if_pos h, if_pos h.symm]
    · rw [if_neg h, if_neg (fun e => h e.symm)]
theorem diff_pre (xs ys : List Int) (k j : Nat) : diff xs ys k <+: diff xs ys (k + j) := by
  induction j with
  | zero => exact List.prefix_refl _
  | succ j ih =>
    rw [← Nat.add_assoc, diff]
    split
    · simpa using ih
    · exact ih.trans (List.prefix_append _ _)
theorem diff_at {xs ys : List Int} {i : Nat} (hx : i < xs.length) (hy : i < ys.length) (hi : i < 17) (hn : i < nameL.length) (h : ¬ xs[i] = ys[i]) : (diff xs ys i).length < (diff xs ys 17).length ∧ (diff xs ys 17)[(diff xs ys i).length]? = some nameL[i] := by
  have e := diff_other hx hy h (hn := hn)
  obtain ⟨t, ht⟩ := diff_pre xs ys (i + 1) (17 - (i + 1))
  rw [show i + 1 + (17 - (i + 1)) = 17 from by omega] at ht
  rw [← ht, e]
  constructor
  · simp
  · rw [List.getElem?_append_left (by simp)]
    simp
theorem diff_nil {xs ys : List Int} (hx : xs.length = 17) (hy : ys.length = 17) (h : diff xs ys 17 = []) : xs = ys := by
  apply List.ext_getElem (by omega)
  intro i h1 h2
  apply Classical.byContradiction
  intro hn
  have := (diff_at h1 h2 (by omega) (by rw [nameL_len]; omega) hn).1
  rw [h] at this
  simp at this

set_option maxHeartbeats 4000000 in
theorem agrees_core (cs ds : Array Value) (xs ys : List Int) (w : World) (h : Tot cs xs) (g : Tot ds ys) (D : List ByteArray) (q : Bool) (hD : diff xs ys 17 = D) (hq : decide (xs = ys) = q) (hq0 : ((D.length : Int) == 0) = q) :
    Calls Try.prog 5 #[.agg cs, .agg ds] w fun e w' => e = .returned (.bool true) ∧ Below w.heap.size w w' := by
  have HT := Lib.hid h
  have HU := Lib.hid g
  have LX := Lib.hid h.len
  have LY := Lib.hid g.len
  have HQ : Hid (∀ W, (binOp .eql 23 (.agg cs) (.agg ds)).run Try.prog W = .ok (.bool q) W) := fun W => by rw [← hq]; exact h.eql g W
  have CB : Hid (∀ W, Calls Try.prog 16 #[.agg ds, .agg cs] W (RetL D.length (strs D) W)) := fun W => by rw [← hD, diff_swap]; exact compare_any ds cs ys xs W g h
  have CC : Hid (∀ W, Calls Try.prog 16 #[.agg cs, .agg cs] W (RetL 0 (strs []) W)) := fun W => by have := compare_any cs cs xs xs W h h; rw [diff_self] at this; exact this
  have CA : Hid (∀ W, Calls Try.prog 16 #[.agg cs, .agg ds] W (RetL D.length (strs D) W)) := fun W => by rw [← hD]; exact compare_any cs ds xs ys W h g
  have HDD := Lib.hid hD
  have LD : Hid (D.length ≤ 9223372036854775807) := by have := diff_le xs ys 17; rw [hD] at this; show _ ≤ _; omega
  clear h g hD hq
  have hqq : (q != q) = false := by simp
  have B1 : Blk ((w.alloc (.cells cs 23)).alloc (.cells ds 23)) w.heap.size 23 cs := heap_alloc2_old _ _ _
  have B2 : Blk ((w.alloc (.cells cs 23)).alloc (.cells ds 23)) (w.heap.size + 1) 23 ds := heap_alloc2_new _ _ _
  have l1 := load_tot B1 HT.out.size
  have l2 := load_tot B2 HU.out.size
  have KW : Hid (Below w.heap.size w ((w.alloc (.cells cs 23)).alloc (.cells ds 23))) := ((Below.refl _ _).alloc (Nat.le_refl _) _).alloc (by simp) _
  go_enter Try.func5, Try.ntmps5
  go_wp2_with fail
  clear l1 l2
  generalize (w.alloc (.cells cs 23)).alloc (.cells ds 23) = W at *
  have KL : Hid (∀ W', Below W.heap.size W W' → (loadRow 23 (.pointer (some ⟨w.heap.size, 0, none⟩))).run Try.prog W' = .ok (.agg cs) W' ∧ (loadRow 23 (.pointer (some ⟨w.heap.size + 1, 0, none⟩))).run Try.prog W' = .ok (.agg ds) W') :=
    fun W' hb => ⟨load_tot (B1.below hb B1.lt) HT.out.size, load_tot (B2.below hb B2.lt) HU.out.size⟩
  clear B1 B2
  refine (CA.out _).mono ?_
  rintro e w1 ⟨A1, c1, rfl, s1, b1⟩
  obtain ⟨l1, l2⟩ := KL.out _ b1
  have S1 := Lib.hid s1
  have G1 := Lib.hid b1
  have q1 := HQ.out
  clear s1 b1
  go_wp2_with fail
  clear l1 l2 q1
  refine (CB.out _).mono ?_
  rintro e w2 ⟨A2, c2, rfl, s2, b2⟩
  have S2 := Lib.hid (S1.out.below b2 (Nat.le_refl _))
  have G2 := Lib.hid (G1.out.trans (b2.mono G1.out.size))
  have T2 := Lib.hid s2
  clear s2 b2
  go_wp2_with fail
  refine (texts54_self D _ _ _ _ _ _ S2.out T2.out LD.out).mono ?_
  rintro e w3 ⟨rfl, b3⟩
  have S3 := Lib.hid (S2.out.below b3 (Nat.le_refl _))
  have G3 := Lib.hid (G2.out.trans (b3.mono G2.out.size))
  clear b3 S2 T2 S1 G1 G2
  obtain ⟨l1, l2⟩ := KL.out _ G3.out
  go_wp2_with fail
  clear l1 l2
  refine (CC.out _).mono ?_
  rintro e w4 ⟨A4, c4, rfl, s4, b4⟩
  have S4 := Lib.hid (S3.out.below b4 (Nat.le_refl _))
  have G4 := Lib.hid (G3.out.trans (b4.mono G3.out.size))
  clear s4 b4 S3 G3
  obtain ⟨l1, l2⟩ := KL.out _ G4.out
  go_wp2_with fail
  clear l1 l2
  refine (HT.out.fields _).mono ?_
  rintro e w5 ⟨A5, c5, rfl, s5, b5⟩
  have S5 := Lib.hid (S4.out.below b5 (Nat.le_refl _))
  have G5 := Lib.hid (G4.out.trans (b5.mono G4.out.size))
  have X5 := Lib.hid s5
  clear s5 b5 S4 G4
  obtain ⟨l1, l2⟩ := KL.out _ G5.out
  go_wp2_with fail
  clear l1 l2
  refine (HU.out.fields _).mono ?_
  rintro e w6 ⟨A6, c6, rfl, s6, b6⟩
  have S6 := Lib.hid (S5.out.below b6 (Nat.le_refl _))
  have G6 := Lib.hid (G5.out.trans (b6.mono G5.out.size))
  have X6 := Lib.hid (X5.out.below b6 (Nat.le_refl _))
  have Y6 := Lib.hid s6
  clear s6 b6 S5 G5 X5
  go_wp2_with fail
  refine (names_any _).mono ?_
  rintro e w7 ⟨A7, c7, rfl, s7, b7⟩
  have S7 := Lib.hid (S6.out.below b7 (Nat.le_refl _))
  have G7 := Lib.hid (KW.out.trans ((G6.out.trans (b7.mono G6.out.size)).mono KW.out.size))
  have k1 := X6.out.below b7 (Nat.le_refl _)
  have k2 := Y6.out.below b7 (Nat.le_refl _)
  clear b7 S6 G6 X6 Y6 KW KL CA CB CC HQ HT HU hq0
  obtain ⟨b1, o1, rfl, c1'⟩ := k1.open_ (by omega)
  obtain ⟨b2, o2, rfl, c2'⟩ := k2.open_ (by omega)
  obtain ⟨b3, o3, rfl, c3'⟩ := s7.open_ (by omega)
  have C1 := Lib.hid c1'
  have C2 := Lib.hid c2'
  have C3 := Lib.hid c3'
  clear c1' c2' c3' k1 k2 s7
  go_wp2_with fail
  go_loopw [9, 10] (fun v i wr => ∃ k : Nat, k ≤ 17 ∧ i = .int .i64 k ∧ v = .int .i64 ((diff xs ys k).length : Nat) ∧ Below w7.heap.size w7 wr) (fun _ i _ => 17 - (intOf i).toNat)
  case atStart => exact ⟨0, by omega, rfl, rfl, Below.refl _ _⟩
  case round =>
    obtain ⟨k, hk, rfl, rfl, hbel⟩ := hrel
    by_cases hlt : k < 17
    · have kx : k < xs.length := by have := LX.out; omega
      have ky : k < ys.length := by have := LY.out; omega
      have kn : k < nameL.length := hlt
      have g1 := C1.out k _ (ints_at kx)
      have g2 := C2.out k _ (ints_at ky)
      have d1 := (hbel.cell (p := ⟨b1, o1 + k, none⟩) (World.block_lt_of_cell? _ _ g1)).trans g1
      have d2 := (hbel.cell (p := ⟨b2, o2 + k, none⟩) (World.block_lt_of_cell? _ _ g2)).trans g2
      have hlti : (k : Int) < 17 := by omega
      have h0i : (0 : Int) ≤ (k : Int) := by omega
      clear g1 g2
      by_cases he : xs[k] = ys[k]
      · have hne : (xs[k] != ys[k]) = false := by simp [he]
        have HS : Hid (diff xs ys (k + 1) = diff xs ys k) := diff_same kx ky he
        clear he
        go_wp2
        go_quiet (fail)
        go_wp2
        go_roundw
        case rel => exact ⟨k + 1, by omega, by go_num, by rw [HS.out], below_drewN hbel _⟩
        case measure => simp [intOf]; omega
      · have hne : (xs[k] != ys[k]) = true := by simp; exact he
        have HS : Hid ((diff xs ys (k + 1)).length = (diff xs ys k).length + 1) := by show _ = _; rw [diff_other kx ky he (hn := kn)]; simp
        obtain ⟨a1, a2⟩ := diff_at kx ky hlt kn he
        have hle := diff_le xs ys k
        rw [HDD.out] at a1 a2
        obtain ⟨b4, o4, rfl, c4'⟩ := S7.out.open_ (by omega)
        have g4 := c4' (diff xs ys k).length (.string nameL[k]) (by simp only [strs, List.getElem?_map, a2]; rfl)
        have d4 := (hbel.cell (p := ⟨b4, o4 + (diff xs ys k).length, none⟩) (World.block_lt_of_cell? _ _ g4)).trans g4
        have g3 := C3.out k _ (strs_at kn)
        have d3 := (hbel.cell (p := ⟨b3, o3 + k, none⟩) (World.block_lt_of_cell? _ _ g3)).trans g3
        have hm : (((diff xs ys k).length : Nat) : Int) < (D.length : Int) := by omega
        have hm0 : (0 : Int) ≤ (((diff xs ys k).length : Nat) : Int) := by omega
        clear he g3 g4 c4' a2
        generalize (diff xs ys k).length = m at *
        generalize nameL[k] = nm at *
        go_wp2
        go_quiet (fail)
        go_wp2
        go_quiet (fail)
        go_wp2
        go_roundw
        case rel => exact ⟨k + 1, by omega, by go_num, by rw [HS.out]; go_num, below_drewN hbel _⟩
        case measure => simp [intOf]; omega
    · obtain rfl : k = 17 := by omega
      rw [HDD.out]
      have hnn : ((D.length : Int) == (D.length : Int)) = true := by simp
      go_wp2_with fail
      refine (awake_any _).mono ?_
      rintro e w8 ⟨rfl, b8⟩
      have G8 := Lib.hid (G7.out.trans ((hbel.trans (b8.mono hbel.size)).mono G7.out.size))
      clear b8
      go_wp2_with fail
      go_ret
      exact ⟨rfl, G8.out⟩

theorem agrees_walk (cs ds : Array Value) (xs ys : List Int) (w : World) (h : Tot cs xs) (g : Tot ds ys) :
    Calls Try.prog 5 #[.agg cs, .agg ds] w fun e w' => e = .returned (.bool true) ∧ Below w.heap.size w w' := by
  refine agrees_core cs ds xs ys w h g _ _ rfl rfl ?_
  by_cases e : xs = ys
  · subst e
    rw [diff_self]
    simp
  · have : (diff xs ys 17).length ≠ 0 := fun z => e (diff_nil h.len g.len (List.eq_nil_of_length_eq_zero z))
    rw [show decide (xs = ys) = false from by simp [e]]
    exact beq_false_of_ne (by omega)
end Go.Proofs.Ytlfcbfaoecdmoaa.Rc
