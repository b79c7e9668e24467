/-
  The walk of lotteryref50.SameAll on two lists of the same records. Conditions: the lists lie in memory.
-/
import Derived.Test.YthpmngdpgniehaaJrEncodes
namespace Go.Proofs.Ythpmngdpgniehaa.Jr
open Go.RowKit Go.Proofs.Ythpmngdpgniehaa.Mem Go.Proofs.Ythpmngdpgniehaa.Wr Go.Proofs.Ythpmngdpgniehaa.Opn
attribute [local go_sem ↓] exec_load_rec exec_store_rec

set_option maxRecDepth 100000 in
set_option maxHeartbeats 4000000 in
theorem sameAll_any (rs : List Rec) (A B : Option Addr) (n ca cb : Nat) (w : World) (hn : rs.length = n) (h9 : n ≤ 9223372036854775807) (ha : RecSl w A rs) (hb : RecSl w B rs) :
    Calls Try.prog 26 #[.slice A n ca, .slice B n cb] w (YesB w) := by
  have HN := Lib.hid hn
  have HA := Lib.hid ha
  have HB := Lib.hid hb
  clear hn ha hb
  go_enter Try.func26, Try.ntmps26
  go_wp2_with fail
  go_loopw [5] (fun v wr => ∃ i : Nat, i ≤ n ∧ v = .int .i64 i ∧ Hid (Below w.heap.size w wr)) (fun v _ => n - (intOf v).toNat)
  case atStart => exact ⟨0, by omega, rfl, Below.refl _ _⟩
  case round =>
    obtain ⟨i, hi, rfl, HQ⟩ := hrel
    by_cases hlt : i < n
    · have il : i < rs.length := by have := HN.out; omega
      obtain ⟨b1, o1, cs1, rfl, n1, i1, c1⟩ := (HA.out.below HQ.out (Nat.le_refl _)) i _ (List.getElem?_eq_getElem il)
      obtain ⟨b2, o2, cs2, rfl, n2, i2, c2⟩ := (HB.out.below HQ.out (Nat.le_refl _)) i _ (List.getElem?_eq_getElem il)
      have L1 : Hid (∀ W, Reg.SB wr.drew W → (loadRow 27 (.pointer (some ⟨b1, o1 + i * 12, none⟩))).run Try.prog W = .ok (.agg cs1) W) := fun W hW => load_rec (fun j v hv => (hW.old.cell (World.block_lt_of_cell? wr ⟨b1, o1 + i * 12 + j, none⟩ (c1 j v hv))).trans (c1 j v hv)) n1
      have L2 : Hid (∀ W, Reg.SB wr.drew W → (loadRow 27 (.pointer (some ⟨b2, o2 + i * 12, none⟩))).run Try.prog W = .ok (.agg cs2) W) := fun W hW => load_rec (fun j v hv => (hW.old.cell (World.block_lt_of_cell? wr ⟨b2, o2 + i * 12 + j, none⟩ (c2 j v hv))).trans (c2 j v hv)) n2
      have I1 := Lib.hid i1
      have I2 := Lib.hid i2
      have CS : Hid (∀ W, IsRec W cs1 rs[i] → IsRec W cs2 rs[i] → Calls Try.prog 15 #[.agg cs1, .agg cs2] W (RB true W)) := fun W h k => by have := sameR_any cs1 cs2 rs[i] rs[i] W h k; rw [same_self] at this; exact this
      have hii : (i : Int) < (n : Int) := by omega
      have h0i : (0 : Int) ≤ (i : Int) := by omega
      clear c1 c2 n1 n2 i1 i2
      generalize rs[i] = r at *
      go_wp2_with fail
      refine Reg.start (by kernel_rfl) ?_
      refine Reg.take 0 (v := ?_) rfl (by kernel_rfl) (fun _ _ _ h => h) rfl ?_ ?_
      rotate_left
      · intro W hW
        go_simp
        try with_reducible rfl
      try simp only [Act.put, List.setIfInBounds_toArray, List.set_cons_zero, List.set_cons_succ]
      refine Reg.take 1 (v := ?_) rfl (by kernel_rfl) (fun _ _ _ h => h) rfl ?_ ?_
      rotate_left
      · intro W hW
        go_simp
        try with_reducible rfl
      try simp only [Act.put, List.setIfInBounds_toArray, List.set_cons_zero, List.set_cons_succ]
      refine Reg.take 2 (v := ?_) rfl (by kernel_rfl) (fun _ _ _ h => h) rfl ?_ ?_
      rotate_left
      · intro W hW
        go_simp
        try with_reducible rfl
      try simp only [Act.put, List.setIfInBounds_toArray, List.set_cons_zero, List.set_cons_succ]
      refine Reg.take 3 (v := ?_) rfl (by kernel_rfl) (fun _ _ _ h => h) rfl ?_ ?_
      rotate_left
      · intro W hW
        have q := L1.out W hW
        go_simp
        try with_reducible rfl
      try simp only [Act.put, List.setIfInBounds_toArray, List.set_cons_zero, List.set_cons_succ]
      refine Reg.take 4 (v := ?_) rfl (by kernel_rfl) (fun _ _ _ h => h) rfl ?_ ?_
      rotate_left
      · intro W hW
        go_simp
        try with_reducible rfl
      try simp only [Act.put, List.setIfInBounds_toArray, List.set_cons_zero, List.set_cons_succ]
      refine Reg.take 5 (v := ?_) rfl (by kernel_rfl) (fun _ _ _ h => h) rfl ?_ ?_
      rotate_left
      · intro W hW
        go_simp
        try with_reducible rfl
      try simp only [Act.put, List.setIfInBounds_toArray, List.set_cons_zero, List.set_cons_succ]
      refine Reg.take 6 (v := ?_) rfl (by kernel_rfl) (fun _ _ _ h => h) rfl ?_ ?_
      rotate_left
      · intro W hW
        go_simp
        try with_reducible rfl
      try simp only [Act.put, List.setIfInBounds_toArray, List.set_cons_zero, List.set_cons_succ]
      refine Reg.take 7 (v := ?_) rfl (by kernel_rfl) (fun _ _ _ h => h) rfl ?_ ?_
      rotate_left
      · intro W hW
        have q := L2.out W hW
        go_simp
        try with_reducible rfl
      try simp only [Act.put, List.setIfInBounds_toArray, List.set_cons_zero, List.set_cons_succ]
      refine Reg.do_ 8 rfl (by kernel_rfl) rfl (fun K hK => ?_)
      go_simp
      refine (CS.out _ (I1.out.below (Below.refl _ wr).drew (Nat.le_refl _)) (I2.out.below (Below.refl _ wr).drew (Nat.le_refl _))).mono ?_
      rintro e w6 ⟨rfl, b6⟩
      have B6 : Hid (Below wr.heap.size wr w6) := (Below.refl _ wr).drew.trans b6
      refine hK.out _ _ b6 ?_
      clear hK K b6
      try simp only [Act.put, List.setIfInBounds_toArray, List.set_cons_zero, List.set_cons_succ]
      refine Reg.take 9 (v := ?_) rfl (by kernel_rfl) (fun _ _ _ h => h) rfl ?_ ?_
      rotate_left
      · intro W hW
        go_simp
        try with_reducible rfl
      try simp only [Act.put, List.setIfInBounds_toArray, List.set_cons_zero, List.set_cons_succ]
      refine Reg.done (by kernel_rfl) ?_
      go_wp2_with fail
      go_roundw
      case rel => exact ⟨i + 1, by omega, by go_num, HQ.out.trans (B6.out.mono HQ.out.size)⟩
      case measure => simp [intOf]; omega
    · obtain rfl : i = n := by omega
      go_wp2_with fail
      go_ret
      exact ⟨rfl, HQ.out⟩
end Go.Proofs.Ythpmngdpgniehaa.Jr
