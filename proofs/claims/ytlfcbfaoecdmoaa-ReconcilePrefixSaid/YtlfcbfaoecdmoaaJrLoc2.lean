/-
  The walk of reconcile.Locate: the first index at which two lists of records differ. Conditions: the lists lie in memory, each of a length that an int holds.
-/
import Derived.Test.YtlfcbfaoecdmoaaJrLoc
namespace Go.Proofs.Ytlfcbfaoecdmoaa.Jr
open Go.RowKit Go.Proofs.Ytlfcbfaoecdmoaa.Mem Go.Proofs.Ytlfcbfaoecdmoaa.Eqs

theorem locG_same {rs ss : List Rec} {k f : Nat} (h : differ rs ss k = 0) : locG rs ss k (f + 1) = locG rs ss (k + 1) f := by rw [locG, if_pos h]
theorem locG_other {rs ss : List Rec} {k f : Nat} (h : ¬ differ rs ss k = 0) : locG rs ss k (f + 1) = ((k : Int), differ rs ss k) := by rw [locG, if_neg h]

set_option maxRecDepth 100000 in
set_option maxHeartbeats 1000000 in
theorem locate_lt (rs ss : List Rec) (A B : Option Addr) (n m ca cb : Nat) (w : World) (hn : rs.length = n) (hm : ss.length = m) (ha : RecSl w A rs) (hb : RecSl w B ss) (h1 : n ≤ 9223372036854775807) (h2 : m ≤ 9223372036854775807) (hnm : n < m) :
    Calls Try.prog 20 #[.slice A n ca, .slice B m cb] w fun e w' => e = .returned (finding (loc rs ss)) ∧ Below w.heap.size w w' := by
  have HL : Hid (loc rs ss = locG rs ss 0 m) := by show _ = _; unfold loc; rw [hn, hm]; congr 1; omega
  have HN := Lib.hid hn
  have HM := Lib.hid hm
  have HA := Lib.hid ha
  have HB := Lib.hid hb
  generalize loc rs ss = L at *
  clear hn hm ha hb
  obtain ⟨W, hW⟩ : ∃ W, W = ((w.alloc (.cells #[.slice A n ca] 36)).alloc (.cells #[.slice B m cb] 36)).alloc (.cells #[.int .i64 0, .int .i64 0] 40) := ⟨_, rfl⟩
  have BN : Blk W w.heap.size 36 #[.slice A n ca] := by rw [hW]; exact ((Blk.at _ _ _ rfl).alloc _).alloc _
  have BM : Blk W (w.heap.size + 1) 36 #[.slice B m cb] := by rw [hW]; exact (Blk.at _ _ _ (by simp)).alloc _
  have BF : Blk W (w.heap.size + 1 + 1) 40 #[.int .i64 0, .int .i64 0] := by rw [hW]; exact Blk.at _ _ _ (by simp)
  have BW : Below w.heap.size w W := by rw [hW]; exact (((Below.refl _ _).alloc (Nat.le_refl _) _).alloc (by simp) _).alloc (by simp; omega) _
  have HW := Lib.hid hW
  have KN := Lib.hid BN
  have KM := Lib.hid BM
  have KF := Lib.hid BF
  have KW := Lib.hid BW
  clear hW BN BM BF BW
  go_enter Try.func20, Try.ntmps20
  go_wp2_with fail
  rw [← HW.out]
  clear HW
  go_loopw [14] (fun i wr => ∃ k : Nat, k ≤ m ∧ i = .int .i64 k ∧ Below W.heap.size W wr ∧ Hid (L = locG rs ss k (m - k))) (fun i _ => m - (intOf i).toNat)
  case atStart => exact ⟨0, by omega, rfl, Below.refl _ _, HL⟩
  case round =>
    obtain ⟨k, hk, rfl, hbel, HK⟩ := hrel
    have hBf := Lib.hid hbel
    by_cases hlt : k < m
    · have HF : Hid (∃ f, m - k = f + 1 ∧ m - (k + 1) = f) := ⟨m - (k + 1), by omega, rfl⟩
      clear hbel
      go_wp2_with fail
      refine (locate1_any rs ss A B n m ca cb k _ _ _ HN.out HM.out (by exact (KN.out.below hBf.out KN.out.lt).cell 0) (by exact (KM.out.below hBf.out KM.out.lt).cell 0) (by exact (HA.out.below KW.out (Nat.le_refl _)).below hBf.out (Nat.le_refl _)) (by exact (HB.out.below KW.out (Nat.le_refl _)).below hBf.out (Nat.le_refl _))).mono ?_
      rintro e w1 ⟨rfl, hb1⟩
      have hB1 : Below W.heap.size W w1 := hBf.out.trans (hb1.mono hBf.out.size)
      by_cases hd : differ rs ss k = 0
      · have HS : Hid (L = locG rs ss (k + 1) (m - (k + 1))) := by
          obtain ⟨f, e1, e2⟩ := HF.out
          have h3 := HK.out
          rw [e1, locG_same hd] at h3
          show _ = _
          rw [e2]
          exact h3
        rw [hd]
        clear hd hb1
        have H1 := Lib.hid hB1
        clear hB1
        go_wp2_with fail
        go_roundw
        case rel => exact ⟨k + 1, by omega, by go_num, H1.out, HS⟩
        case measure => simp [intOf]; omega
      · have HS : Hid (L = ((k : Int), differ rs ss k)) := by
          obtain ⟨f, e1, e2⟩ := HF.out
          have h3 := HK.out
          rw [e1, locG_other hd] at h3
          exact h3
        have hdb : (differ rs ss k != 0) = true := by simpa using hd
        generalize differ rs ss k = D at *
        have q := KF.out.below hB1 KF.out.lt
        have q0 := q.cell 0
        have q1 := q.cell 1
        have f0 := q.frozen 0
        have f1 := q.frozen 1
        simp only [List.getElem?_toArray, List.getElem?_cons_zero, List.getElem?_cons_succ] at q0 q1
        have QB := Lib.hid ((KW.out.trans (hB1.mono KW.out.size)).mono (Nat.le_refl w.heap.size))
        have QF : Hid (w.heap.size ≤ w.heap.size + 1 + 1) := by show _ ≤ _; omega
        clear hd hb1 hB1 q
        go_wp2_with fail
        refine bodyPost_ret (v := .agg #[.int .i64 (k : Int), .int .i64 D]) (by simp [results, Try.results20, go_sem, q0, q1]) rfl ⟨?_, ?_⟩
        · rw [HS.out]
        · exact (QB.out.setCell (p := ⟨w.heap.size + 1 + 1, 0, none⟩) QF.out _).setCell (p := ⟨w.heap.size + 1 + 1, 1, none⟩) QF.out _
    · obtain rfl : k = m := by omega
      have HS : Hid (L = (-1, 0)) := by
        have h3 := HK.out
        rw [Nat.sub_self] at h3
        exact h3
      have q := KF.out.below hbel KF.out.lt
      have q0 := q.cell 0
      have q1 := q.cell 1
      have f0 := q.frozen 0
      have f1 := q.frozen 1
      simp only [List.getElem?_toArray, List.getElem?_cons_zero, List.getElem?_cons_succ] at q0 q1
      have QB := Lib.hid ((KW.out.trans (hbel.mono KW.out.size)).mono (Nat.le_refl w.heap.size))
      have QF : Hid (w.heap.size ≤ w.heap.size + 1 + 1) := by show _ ≤ _; omega
      clear hbel q
      go_wp2_with fail
      refine bodyPost_ret (v := .agg #[.int .i64 (-1), .int .i64 0]) (by simp [results, Try.results20, go_sem, q0, q1]) rfl ⟨?_, ?_⟩
      · rw [HS.out]
      · exact (QB.out.setCell (p := ⟨w.heap.size + 1 + 1, 0, none⟩) QF.out _).setCell (p := ⟨w.heap.size + 1 + 1, 1, none⟩) QF.out _

set_option maxRecDepth 100000 in
set_option maxHeartbeats 1000000 in
theorem locate_ge (rs ss : List Rec) (A B : Option Addr) (n m ca cb : Nat) (w : World) (hn : rs.length = n) (hm : ss.length = m) (ha : RecSl w A rs) (hb : RecSl w B ss) (h1 : n ≤ 9223372036854775807) (_h2 : m ≤ 9223372036854775807) (hnm : ¬ n < m) :
    Calls Try.prog 20 #[.slice A n ca, .slice B m cb] w fun e w' => e = .returned (finding (loc rs ss)) ∧ Below w.heap.size w w' := by
  have HL : Hid (loc rs ss = locG rs ss 0 n) := by show _ = _; unfold loc; rw [hn, hm]; congr 1; omega
  have HN := Lib.hid hn
  have HM := Lib.hid hm
  have HA := Lib.hid ha
  have HB := Lib.hid hb
  generalize loc rs ss = L at *
  clear hn hm ha hb
  obtain ⟨W, hW⟩ : ∃ W, W = ((w.alloc (.cells #[.slice A n ca] 36)).alloc (.cells #[.slice B m cb] 36)).alloc (.cells #[.int .i64 0, .int .i64 0] 40) := ⟨_, rfl⟩
  have BN : Blk W w.heap.size 36 #[.slice A n ca] := by rw [hW]; exact ((Blk.at _ _ _ rfl).alloc _).alloc _
  have BM : Blk W (w.heap.size + 1) 36 #[.slice B m cb] := by rw [hW]; exact (Blk.at _ _ _ (by simp)).alloc _
  have BF : Blk W (w.heap.size + 1 + 1) 40 #[.int .i64 0, .int .i64 0] := by rw [hW]; exact Blk.at _ _ _ (by simp)
  have BW : Below w.heap.size w W := by rw [hW]; exact (((Below.refl _ _).alloc (Nat.le_refl _) _).alloc (by simp) _).alloc (by simp; omega) _
  have HW := Lib.hid hW
  have KN := Lib.hid BN
  have KM := Lib.hid BM
  have KF := Lib.hid BF
  have KW := Lib.hid BW
  clear hW BN BM BF BW
  go_enter Try.func20, Try.ntmps20
  go_wp2_with fail
  rw [← HW.out]
  clear HW
  go_loopw [14] (fun i wr => ∃ k : Nat, k ≤ n ∧ i = .int .i64 k ∧ Below W.heap.size W wr ∧ Hid (L = locG rs ss k (n - k))) (fun i _ => n - (intOf i).toNat)
  case atStart => exact ⟨0, by omega, rfl, Below.refl _ _, HL⟩
  case round =>
    obtain ⟨k, hk, rfl, hbel, HK⟩ := hrel
    have hBf := Lib.hid hbel
    by_cases hlt : k < n
    · have HF : Hid (∃ f, n - k = f + 1 ∧ n - (k + 1) = f) := ⟨n - (k + 1), by omega, rfl⟩
      clear hbel
      go_wp2_with fail
      refine (locate1_any rs ss A B n m ca cb k _ _ _ HN.out HM.out (by exact (KN.out.below hBf.out KN.out.lt).cell 0) (by exact (KM.out.below hBf.out KM.out.lt).cell 0) (by exact (HA.out.below KW.out (Nat.le_refl _)).below hBf.out (Nat.le_refl _)) (by exact (HB.out.below KW.out (Nat.le_refl _)).below hBf.out (Nat.le_refl _))).mono ?_
      rintro e w1 ⟨rfl, hb1⟩
      have hB1 : Below W.heap.size W w1 := hBf.out.trans (hb1.mono hBf.out.size)
      by_cases hd : differ rs ss k = 0
      · have HS : Hid (L = locG rs ss (k + 1) (n - (k + 1))) := by
          obtain ⟨f, e1, e2⟩ := HF.out
          have h3 := HK.out
          rw [e1, locG_same hd] at h3
          show _ = _
          rw [e2]
          exact h3
        rw [hd]
        clear hd hb1
        have H1 := Lib.hid hB1
        clear hB1
        go_wp2_with fail
        go_roundw
        case rel => exact ⟨k + 1, by omega, by go_num, H1.out, HS⟩
        case measure => simp [intOf]; omega
      · have HS : Hid (L = ((k : Int), differ rs ss k)) := by
          obtain ⟨f, e1, e2⟩ := HF.out
          have h3 := HK.out
          rw [e1, locG_other hd] at h3
          exact h3
        have hdb : (differ rs ss k != 0) = true := by simpa using hd
        generalize differ rs ss k = D at *
        have q := KF.out.below hB1 KF.out.lt
        have q0 := q.cell 0
        have q1 := q.cell 1
        have f0 := q.frozen 0
        have f1 := q.frozen 1
        simp only [List.getElem?_toArray, List.getElem?_cons_zero, List.getElem?_cons_succ] at q0 q1
        have QB := Lib.hid ((KW.out.trans (hB1.mono KW.out.size)).mono (Nat.le_refl w.heap.size))
        have QF : Hid (w.heap.size ≤ w.heap.size + 1 + 1) := by show _ ≤ _; omega
        clear hd hb1 hB1 q
        go_wp2_with fail
        refine bodyPost_ret (v := .agg #[.int .i64 (k : Int), .int .i64 D]) (by simp [results, Try.results20, go_sem, q0, q1]) rfl ⟨?_, ?_⟩
        · rw [HS.out]
        · exact (QB.out.setCell (p := ⟨w.heap.size + 1 + 1, 0, none⟩) QF.out _).setCell (p := ⟨w.heap.size + 1 + 1, 1, none⟩) QF.out _
    · obtain rfl : k = n := by omega
      have HS : Hid (L = (-1, 0)) := by
        have h3 := HK.out
        rw [Nat.sub_self] at h3
        exact h3
      have q := KF.out.below hbel KF.out.lt
      have q0 := q.cell 0
      have q1 := q.cell 1
      have f0 := q.frozen 0
      have f1 := q.frozen 1
      simp only [List.getElem?_toArray, List.getElem?_cons_zero, List.getElem?_cons_succ] at q0 q1
      have QB := Lib.hid ((KW.out.trans (hbel.mono KW.out.size)).mono (Nat.le_refl w.heap.size))
      have QF : Hid (w.heap.size ≤ w.heap.size + 1 + 1) := by show _ ≤ _; omega
      clear hbel q
      go_wp2_with fail
      refine bodyPost_ret (v := .agg #[.int .i64 (-1), .int .i64 0]) (by simp [results, Try.results20, go_sem, q0, q1]) rfl ⟨?_, ?_⟩
      · rw [HS.out]
      · exact (QB.out.setCell (p := ⟨w.heap.size + 1 + 1, 0, none⟩) QF.out _).setCell (p := ⟨w.heap.size + 1 + 1, 1, none⟩) QF.out _

theorem locate_any (rs ss : List Rec) (A B : Option Addr) (n m ca cb : Nat) (w : World) (hn : rs.length = n) (hm : ss.length = m) (ha : RecSl w A rs) (hb : RecSl w B ss) (h1 : n ≤ 9223372036854775807) (h2 : m ≤ 9223372036854775807) :
    Calls Try.prog 20 #[.slice A n ca, .slice B m cb] w fun e w' => e = .returned (finding (loc rs ss)) ∧ Below w.heap.size w w' := by
  by_cases h : n < m
  · exact locate_lt rs ss A B n m ca cb w hn hm ha hb h1 h2 h
  · exact locate_ge rs ss A B n m ca cb w hn hm ha hb h1 h2 h
end Go.Proofs.Ytlfcbfaoecdmoaa.Jr
