/-
  The walk of Locate of package lotteryref54. Conditions: the records lie in memory.
-/
import Derived.Test.YtlfcbfaoecdmoaaJrLoc2
import Derived.Test.YtlfcbfaoecdmoaaJrSameR
namespace Go.Proofs.Ytlfcbfaoecdmoaa.Rc
open Go.RowKit Go.Proofs.Ytlfcbfaoecdmoaa.Mem Go.Proofs.Ytlfcbfaoecdmoaa.Eqs Go.Proofs.Ytlfcbfaoecdmoaa.Jr
attribute [local go_sem ↓] exec_load_rec

theorem differ_in {rs ss : List Rec} {k : Nat} (h1 : k < rs.length) (h2 : k < ss.length) : Jr.differ rs ss k = if (rs[k].same ss[k]) = true then 0 else 29 := by
  unfold Jr.differ
  rw [List.getElem?_eq_getElem h1, List.getElem?_eq_getElem h2]
theorem differ_out {rs ss : List Rec} {k : Nat} (h : rs.length ≤ k ∨ ss.length ≤ k) : Jr.differ rs ss k = 28 := by
  unfold Jr.differ
  rcases h with h | h
  · rw [List.getElem?_eq_none h]
  · rw [List.getElem?_eq_none h]
    cases rs[k]? <;> rfl

set_option maxRecDepth 100000 in
set_option maxHeartbeats 4000000 in
theorem locateR_any (rs ss : List Rec) (A B : Option Addr) (n m ca cb : Nat) (w : World) (hn : rs.length = n) (hm : ss.length = m) (ha : RecSl w A rs) (hb : RecSl w B ss) (h1 : n ≤ 9223372036854775807) (h2 : m ≤ 9223372036854775807) :
    Calls Try.prog 21 #[.slice A n ca, .slice B m cb] w fun e w' => e = .returned (finding (loc rs ss)) ∧ Below w.heap.size w w' := by
  have HL : Hid (loc rs ss = locG rs ss 0 (max n m - 0)) := by show _ = _; unfold loc; rw [hn, hm]; rfl
  have HN := Lib.hid hn
  have HM := Lib.hid hm
  generalize loc rs ss = L at *
  obtain ⟨W, hW⟩ : ∃ W, W = w.alloc (.cells #[.int .i64 0, .int .i64 0] 40) := ⟨_, rfl⟩
  have BF : Blk W w.heap.size 40 #[.int .i64 0, .int .i64 0] := by rw [hW]; exact Blk.new _ _ _
  have BW : Below w.heap.size w W := by rw [hW]; exact (Below.refl _ _).alloc (Nat.le_refl _) _
  have HA := Lib.hid (ha.below BW (Nat.le_refl _))
  have HB := Lib.hid (hb.below BW (Nat.le_refl _))
  have HW := Lib.hid hW
  have KF := Lib.hid BF
  have KW := Lib.hid BW
  have HI1 : Hid (n ≤ 9223372036854775807) := h1
  have HI2 : Hid (m ≤ 9223372036854775807) := h2
  clear hn hm ha hb hW BF BW h1 h2
  go_enter Try.func21, Try.ntmps21
  go_wp2_with fail
  rw [← HW.out]
  clear HW
  go_loopw [5] (fun i wr => ∃ k : Nat, k ≤ n ∧ k ≤ m ∧ i = .int .i64 k ∧ Below W.heap.size W wr ∧ Hid (L = locG rs ss k (max n m - k))) (fun i _ => n - (intOf i).toNat)
  case atStart => exact ⟨0, by omega, by omega, rfl, Below.refl _ _, HL⟩
  case round =>
    obtain ⟨k, hk, hk2, rfl, hbel, HK⟩ := hrel
    have hBf := Lib.hid hbel
    clear hbel
    have QF : Hid (w.heap.size ≤ w.heap.size) := Nat.le_refl _
    by_cases hlt : k < n ∧ k < m
    · obtain ⟨hl1, hl2⟩ := hlt
      have k1 : k < rs.length := by have := HN.out; omega
      have k2 : k < ss.length := by have := HM.out; omega
      obtain ⟨b1, o1, cs, rfl, n1, i1, c1⟩ := HA.out.below hBf.out (Nat.le_refl _) k _ (List.getElem?_eq_getElem k1)
      obtain ⟨b2, o2, ds, rfl, n2, i2, c2⟩ := HB.out.below hBf.out (Nat.le_refl _) k _ (List.getElem?_eq_getElem k2)
      have HD := Lib.hid (differ_in k1 k2)
      have HFu : Hid (∃ f, max n m - k = f + 1 ∧ max n m - (k + 1) = f) := ⟨max n m - (k + 1), by omega, rfl⟩
      have hi1 : (k : Int) < (n : Int) := by omega
      have hi2 : (k : Int) < (m : Int) := by omega
      have h0i : (0 : Int) ≤ (k : Int) := by omega
      have t1 : decide (k < n) = true := by simp; omega
      have t2 : decide (k < m) = true := by simp; omega
      have HS0 : Hid (Jr.differ rs ss k = 0 → L = locG rs ss (k + 1) (max n m - (k + 1))) := fun hd => by
        obtain ⟨f, e1, e2⟩ := HFu.out
        have h3 := HK.out
        rw [e1, locG_same hd] at h3
        rw [e2]
        exact h3
      have HS1 : Hid (¬ Jr.differ rs ss k = 0 → L = ((k : Int), Jr.differ rs ss k)) := fun hd => by
        obtain ⟨f, e1, e2⟩ := HFu.out
        have h3 := HK.out
        rw [e1, locG_other hd] at h3
        exact h3
      generalize rs[k] = r at *
      generalize ss[k] = s at *
      have I1 := Lib.hid i1
      have I2 := Lib.hid i2
      have K : Hid (∀ X, (∀ p : Addr, p.block < wr.heap.size → X.cell? p = wr.cell? p) → (loadRow 48 (.pointer (some ⟨b1, o1 + k * 12, none⟩))).run Try.prog X = .ok (.agg cs) X ∧ (loadRow 48 (.pointer (some ⟨b2, o2 + k * 12, none⟩))).run Try.prog X = .ok (.agg ds) X) := by
        intro X hX
        exact ⟨load_rec (fun j v hv => (hX _ (World.block_lt_of_cell? wr ⟨b1, o1 + k * 12 + j, none⟩ (c1 j v hv))).trans (c1 j v hv)) n1,
          load_rec (fun j v hv => (hX _ (World.block_lt_of_cell? wr ⟨b2, o2 + k * 12 + j, none⟩ (c2 j v hv))).trans (c2 j v hv)) n2⟩
      have l1 := load_rec (W := wr) (b := b1) (off := o1 + k * 12) c1 n1
      have l2 := load_rec (W := wr) (b := b2) (off := o2 + k * 12) c2 n2
      clear c1 c2 n1 n2 i1 i2 k1 k2
      go_wp2_with fail
      go_region_held3 (fun X => (loadRow 48 (.pointer (some ⟨b1, o1 + k * 12, none⟩))).run Try.prog X = .ok (.agg cs) X ∧ (loadRow 48 (.pointer (some ⟨b2, o2 + k * 12, none⟩))).run Try.prog X = .ok (.agg ds) X)
        (first
          | exact K.out _ (fun _ _ => rfl)
          | exact K.out _ (fun _ hx => hb1.cell (by simpa using hx)))
        (first
          | (go_at_call 25; refine (sameR_any cs ds r s _ (by exact I1.out.keep fun _ _ => rfl) (by exact I2.out.keep fun _ _ => rfl)).mono ?_; rintro e w1 ⟨rfl, hb1⟩))
      have hB1 : Below W.heap.size W w1 := hBf.out.trans (((Below.refl _ wr).drew.trans (hb1.mono (by simp))).mono hBf.out.size)
      cases hs : r.same s with
      | true =>
        have HE : Hid (L = locG rs ss (k + 1) (max n m - (k + 1))) := HS0.out (by have := HD.out; rw [hs] at this; exact this)
        have H1 := Lib.hid hB1
        clear hb1 l1 l2 hB1
        have hbig := HI1.out
        go_wp2_with fail
        go_roundw
        case rel => exact ⟨k + 1, by omega, by omega, by go_num, H1.out, HE⟩
        case measure => simp [intOf]; omega
      | false =>
        have HE : Hid (L = ((k : Int), (29 : Int))) := by
          have e0 : Jr.differ rs ss k = 29 := by have := HD.out; rw [hs] at this; exact this
          have := HS1.out (by rw [e0]; decide)
          rw [e0] at this
          exact this
        have q := KF.out.below hB1 KF.out.lt
        have q0 := q.cell 0
        have q1 := q.cell 1
        have f0 := q.frozen 0
        have f1 := q.frozen 1
        simp only [List.getElem?_toArray, List.getElem?_cons_zero, List.getElem?_cons_succ] at q0 q1
        have QB := Lib.hid ((KW.out.trans (hB1.mono KW.out.size)).mono (Nat.le_refl w.heap.size))
        clear hb1 l1 l2 hB1 q
        go_wp2_with fail
        refine bodyPost_ret (v := .agg #[.int .i64 (k : Int), .int .i64 29]) (by simp [results, Try.results21, go_sem, q0, q1]) rfl ⟨?_, ?_⟩
        · rw [HE.out]
        · exact (QB.out.setCell (p := ⟨w.heap.size, 0, none⟩) QF.out _).setCell (p := ⟨w.heap.size, 1, none⟩) QF.out _
    · have q := KF.out.below hBf.out KF.out.lt
      have q0 := q.cell 0
      have q1 := q.cell 1
      have f0 := q.frozen 0
      have f1 := q.frozen 1
      simp only [List.getElem?_toArray, List.getElem?_cons_zero, List.getElem?_cons_succ] at q0 q1
      have QB := Lib.hid ((KW.out.trans (hBf.out.mono KW.out.size)).mono (Nat.le_refl w.heap.size))
      clear q
      by_cases hnm : n = m
      · subst hnm
        obtain rfl : k = n := by omega
        have HS : Hid (L = (-1, 0)) := by
          have h3 := HK.out
          rw [show max k k - k = 0 from by omega] at h3
          exact h3
        clear hlt
        go_wp2_with fail
        refine bodyPost_ret (v := .agg #[.int .i64 (-1), .int .i64 0]) (by simp [results, Try.results21, go_sem, q0, q1]) rfl ⟨?_, ?_⟩
        · rw [HS.out]
        · exact (QB.out.setCell (p := ⟨w.heap.size, 0, none⟩) QF.out _).setCell (p := ⟨w.heap.size, 1, none⟩) QF.out _
      · have HS : Hid (L = ((k : Int), (28 : Int))) := by
          have e0 : Jr.differ rs ss k = 28 := differ_out (by have := HN.out; have := HM.out; omega)
          have h3 := HK.out
          rw [show max n m - k = (max n m - (k + 1)) + 1 from by omega, locG_other (by rw [e0]; decide), e0] at h3
          exact h3
        have hne : ((n : Int) != (m : Int)) = true := by simp; omega
        by_cases hkn : k < n
        · obtain rfl : k = m := by omega
          have hi1 : (k : Int) < (n : Int) := by omega
          have hmin : min (n : Int) (k : Int) = (k : Int) := by omega
          clear hlt hnm
          go_wp2_with fail
          refine bodyPost_ret (v := .agg #[.int .i64 (k : Int), .int .i64 28]) (by simp [results, Try.results21, go_sem, q0, q1]) rfl ⟨?_, ?_⟩
          · rw [HS.out]
          · exact (QB.out.setCell (p := ⟨w.heap.size, 0, none⟩) QF.out _).setCell (p := ⟨w.heap.size, 1, none⟩) QF.out _
        · obtain rfl : k = n := by omega
          have hi1 : (k : Int) < (m : Int) := by omega
          have hmin : min (k : Int) (m : Int) = (k : Int) := by omega
          clear hlt hnm
          go_wp2_with fail
          refine bodyPost_ret (v := .agg #[.int .i64 (k : Int), .int .i64 28]) (by simp [results, Try.results21, go_sem, q0, q1]) rfl ⟨?_, ?_⟩
          · rw [HS.out]
          · exact (QB.out.setCell (p := ⟨w.heap.size, 0, none⟩) QF.out _).setCell (p := ⟨w.heap.size, 1, none⟩) QF.out _
end Go.Proofs.Ytlfcbfaoecdmoaa.Rc
