/-
  The walk of JournalEncodes: it returns true, and changes nothing that was there. Conditions: the records lie in memory.
-/
import Derived.Test.YthpmngdpgniehaaJrShut
import Derived.Test.YthpmngdpgniehaaJrSameR
import Derived.Test.YthpmngdpgniehaaReg
namespace Go.Proofs.Ythpmngdpgniehaa.Jr
open Go.RowKit Go.Proofs.Ythpmngdpgniehaa.Mem Go.Proofs.Ythpmngdpgniehaa.Wr Go.Proofs.Ythpmngdpgniehaa.Opn
attribute [local go_sem ↓] exec_load_rec exec_store_rec exec_build_recs

def RB (b : Bool) (w : World) (e : Ending) (w' : World) : Prop := e = .returned (.bool b) ∧ Below w.heap.size w w'
set_option maxRecDepth 100000 in
set_option maxHeartbeats 8000000 in
theorem encodes_walk (r s : Rec) (cs ds : Array Value) (w : World) (ir : IsRec w cs r) (is : IsRec w ds s) (hfr : RecFit r) :
    Calls Try.prog 4 #[.agg cs, .agg ds] w (YesB w) := by
  obtain ⟨W0, hW0⟩ : ∃ W0, W0 = (w.alloc (.cells cs 27)).alloc (.cells ds 27) := ⟨_, rfl⟩
  have ld1 : (loadRow 27 (.pointer (some ⟨w.heap.size, 0, none⟩))).run Try.prog ((w.alloc (.cells cs 27)).alloc (.cells ds 27)) = .ok (.agg cs) _ := load_blk ((Blk.new _ _ _).alloc _) (rec_size ir)
  have ld2 : (loadRow 27 (.pointer (some ⟨w.heap.size + 1, 0, none⟩))).run Try.prog ((w.alloc (.cells cs 27)).alloc (.cells ds 27)) = .ok (.agg ds) _ := load_blk (Blk.at _ _ _ (by simp)) (rec_size is)
  have bo := build_two ir is
  have HCS := Lib.hid (rec_size ir)
  have HDS := Lib.hid (rec_size is)
  have HZ : Hid (w.heap.size + 1 + 1 = W0.heap.size) := Lib.hid (by rw [hW0]; simp)
  have KA_0 : Hid (Blk W0 w.heap.size 27 cs) := by rw [hW0]; exact (Blk.new _ _ _).alloc _
  have KB_0 : Hid (Blk W0 (w.heap.size + 1) 27 ds) := by rw [hW0]; exact Blk.at _ _ _ (by simp)
  have BE_0 : Hid (Below w.heap.size w W0) := by rw [hW0]; exact ((Below.refl _ w).alloc (Nat.le_refl _) _).alloc (by simp) _
  have IR_0 : Hid (IsRec W0 cs r) := ir.below BE_0.out (Nat.le_refl _)
  have IS_0 : Hid (IsRec W0 ds s) := is.below BE_0.out (Nat.le_refl _)
  have HW := Lib.hid hW0
  clear hW0 ir is
  go_enter Try.func4, Try.ntmps4
  go_wp2_with fail
  rw [← HW.out]
  clear ld1 ld2 bo HW
  refine (few_any [r, s] _ 2 2 _ rfl (recsl_two HZ.out IR_0.out IS_0.out _)).mono ?_
  rintro e w1 ⟨rfl, b1⟩
  have F1 : Below W0.heap.size W0 w1 := ((Below.refl _ W0).alloc (Nat.le_refl _) _).trans (b1.mono (by simp))
  clear b1 HZ
  have KA_1 := Lib.hid (KA_0.out.below F1 KA_0.out.lt)
  have KB_1 := Lib.hid (KB_0.out.below F1 KB_0.out.lt)
  have BE_1 := Lib.hid (BE_0.out.trans (F1.mono BE_0.out.size))
  have IR_1 := Lib.hid (IR_0.out.below F1 (Nat.le_refl _))
  have IS_1 := Lib.hid (IS_0.out.below F1 (Nat.le_refl _))
  clear KA_0 KB_0 BE_0 IR_0 IS_0
  clear F1
  cases hfw : fewB [r, s] with
  | false =>
    go_wp2_with fail
    refine (awake_any _).mono ?_
    rintro e v1 ⟨rfl, b1⟩
    have KA_2 := Lib.hid (KA_1.out.below b1 KA_1.out.lt)
    have KB_2 := Lib.hid (KB_1.out.below b1 KB_1.out.lt)
    have BE_2 := Lib.hid (BE_1.out.trans (b1.mono BE_1.out.size))
    have IR_2 := Lib.hid (IR_1.out.below b1 (Nat.le_refl _))
    have IS_2 := Lib.hid (IS_1.out.below b1 (Nat.le_refl _))
    clear KA_1 KB_1 BE_1 IR_1 IS_1
    clear b1
    go_wp2_with fail
    go_ret
    exact ⟨rfl, BE_2.out⟩
  | true =>
    have hlim := (few_lim hfw).2 r (by simp)
    have C1 : Hid (∀ W, IsRec W cs r → Calls Try.prog 19 #[.agg cs] W (RetBytes (enc r) W)) := fun W h => encode_any r cs W h hfr hlim
    have C2 : Hid (∀ W, IsRec W cs r → Calls Try.prog 20 #[.agg cs] W (RetBytes (enc r) W)) := fun W h => encodeR_any r cs W h hfr hlim
    have C3 : Hid (∀ W, IsRec W cs r → IsRec W ds s → Calls Try.prog 21 #[.agg cs, .agg ds] W (RB (r.same s) W)) := fun W h k => same_any cs ds r s W h k
    have C4 : Hid (∀ W, IsRec W cs r → IsRec W ds s → Calls Try.prog 15 #[.agg cs, .agg ds] W (RB (r.same s) W)) := fun W h k => sameR_any cs ds r s W h k
    have C5 : Hid (∀ W, IsRec W cs r → Calls Try.prog 21 #[.agg cs, .agg cs] W (RB true W)) := fun W h => by have := same_any cs cs r r W h h; rw [same_self] at this; exact this
    generalize r.same s = bb at *
    generalize enc r = en at *
    clear hfw hlim hfr
    go_wp2_with fail
    have F : Below w1.heap.size w1 w1.drew := (Below.refl _ _).drew
    have KA_2 := Lib.hid (KA_1.out.below F KA_1.out.lt)
    have KB_2 := Lib.hid (KB_1.out.below F KB_1.out.lt)
    have BE_2 := Lib.hid (BE_1.out.trans (F.mono BE_1.out.size))
    have IR_2 := Lib.hid (IR_1.out.below F (Nat.le_refl _))
    have IS_2 := Lib.hid (IS_1.out.below F (Nat.le_refl _))
    clear KA_1 KB_1 BE_1 IR_1 IS_1
    clear F
    refine Reg.start (by kernel_rfl) ?_
    refine Reg.take 0 (v := ?_) rfl (by kernel_rfl) (fun _ _ _ h => h) rfl ?_ ?_
    rotate_left
    · intro W hW
      have l1 : (loadRow 27 (.pointer (some ⟨w.heap.size, 0, none⟩))).run Try.prog W = .ok (.agg cs) W := load_blk (KA_2.out.below hW.all KA_2.out.lt) HCS.out
      go_simp
      try with_reducible rfl
    try simp only [Act.put, List.setIfInBounds_toArray, List.set_cons_zero, List.set_cons_succ]
    refine Reg.take 3 (v := ?_) rfl (by kernel_rfl) (fun _ _ _ h => h) rfl ?_ ?_
    rotate_left
    · intro W hW
      have l1 : (loadRow 27 (.pointer (some ⟨w.heap.size, 0, none⟩))).run Try.prog W = .ok (.agg cs) W := load_blk (KA_2.out.below hW.all KA_2.out.lt) HCS.out
      go_simp
      try with_reducible rfl
    try simp only [Act.put, List.setIfInBounds_toArray, List.set_cons_zero, List.set_cons_succ]
    refine Reg.do_ 1 rfl (by kernel_rfl) rfl (fun K hK => ?_)
    go_simp
    refine (C1.out _ IR_2.out).mono ?_
    rintro e v1 ⟨xS1, rfl, oS1, fS1, b1⟩
    have KA_3 := Lib.hid (KA_2.out.below b1 KA_2.out.lt)
    have KB_3 := Lib.hid (KB_2.out.below b1 KB_2.out.lt)
    have BE_3 := Lib.hid (BE_2.out.trans (b1.mono BE_2.out.size))
    have IR_3 := Lib.hid (IR_2.out.below b1 (Nat.le_refl _))
    have IS_3 := Lib.hid (IS_2.out.below b1 (Nat.le_refl _))
    clear KA_2 KB_2 BE_2 IR_2 IS_2
    obtain ⟨AS1, cS1, rfl, sS1⟩ := own_form oS1
    have S1_0 := Lib.hid sS1
    clear oS1 fS1 sS1
    refine hK.out _ _ b1 ?_
    clear hK K b1
    try simp only [Act.put, List.setIfInBounds_toArray, List.set_cons_zero, List.set_cons_succ]
    refine Reg.take 2 (v := ?_) rfl (by kernel_rfl) (fun _ _ _ h => h) rfl ?_ ?_
    rotate_left
    · intro W hW
      have cv := run_string_sl (P := Try.prog) (w := W) 40 9 5 Try.underlying40 Try.underlying5 Try.underlying9 (S1_0.out.below hW.all (Nat.le_refl _)) cS1
      go_simp
      try with_reducible rfl
    try simp only [Act.put, List.setIfInBounds_toArray, List.set_cons_zero, List.set_cons_succ]
    refine Reg.do_ 4 rfl (by kernel_rfl) rfl (fun K hK => ?_)
    go_simp
    refine (C2.out _ IR_3.out).mono ?_
    rintro e v2 ⟨xS2, rfl, oS2, fS2, b2⟩
    have KA_4 := Lib.hid (KA_3.out.below b2 KA_3.out.lt)
    have KB_4 := Lib.hid (KB_3.out.below b2 KB_3.out.lt)
    have BE_4 := Lib.hid (BE_3.out.trans (b2.mono BE_3.out.size))
    have IR_4 := Lib.hid (IR_3.out.below b2 (Nat.le_refl _))
    have IS_4 := Lib.hid (IS_3.out.below b2 (Nat.le_refl _))
    have S1_1 := Lib.hid (S1_0.out.below b2 (Nat.le_refl _))
    clear KA_3 KB_3 BE_3 IR_3 IS_3 S1_0
    obtain ⟨AS2, cS2, rfl, sS2⟩ := own_form oS2
    have S2_0 := Lib.hid sS2
    clear oS2 fS2 sS2
    refine hK.out _ _ b2 ?_
    clear hK K b2
    try simp only [Act.put, List.setIfInBounds_toArray, List.set_cons_zero, List.set_cons_succ]
    refine Reg.take 5 (v := ?_) rfl (by kernel_rfl) (fun _ _ _ h => h) rfl ?_ ?_
    rotate_left
    · intro W hW
      have cv := run_string_sl (P := Try.prog) (w := W) 40 9 5 Try.underlying40 Try.underlying5 Try.underlying9 (S2_0.out.below hW.all (Nat.le_refl _)) cS2
      go_simp
      try with_reducible rfl
    try simp only [Act.put, List.setIfInBounds_toArray, List.set_cons_zero, List.set_cons_succ]
    refine Reg.take 6 (v := ?_) rfl (by kernel_rfl) (fun _ _ _ h => h) rfl ?_ ?_
    rotate_left
    · intro W hW
      go_simp
      try with_reducible rfl
    try simp only [Act.put, List.setIfInBounds_toArray, List.set_cons_zero, List.set_cons_succ]
    refine Reg.take 7 (v := ?_) rfl (by kernel_rfl) (fun _ _ _ h => h) rfl ?_ ?_
    rotate_left
    · intro W hW
      go_simp
      try with_reducible rfl
    try simp only [Act.put, List.setIfInBounds_toArray, List.set_cons_zero, List.set_cons_succ]
    refine Reg.take 8 (v := ?_) rfl (by kernel_rfl) (fun _ _ _ h => h) rfl ?_ ?_
    rotate_left
    · intro W hW
      have l1 : (loadRow 27 (.pointer (some ⟨w.heap.size, 0, none⟩))).run Try.prog W = .ok (.agg cs) W := load_blk (KA_4.out.below hW.all KA_4.out.lt) HCS.out
      go_simp
      try with_reducible rfl
    try simp only [Act.put, List.setIfInBounds_toArray, List.set_cons_zero, List.set_cons_succ]
    refine Reg.take 9 (v := ?_) rfl (by kernel_rfl) (fun _ _ _ h => h) rfl ?_ ?_
    rotate_left
    · intro W hW
      have l1 : (loadRow 27 (.pointer (some ⟨w.heap.size + 1, 0, none⟩))).run Try.prog W = .ok (.agg ds) W := load_blk (KB_4.out.below hW.all KB_4.out.lt) HDS.out
      go_simp
      try with_reducible rfl
    try simp only [Act.put, List.setIfInBounds_toArray, List.set_cons_zero, List.set_cons_succ]
    refine Reg.take 11 (v := ?_) rfl (by kernel_rfl) (fun _ _ _ h => h) rfl ?_ ?_
    rotate_left
    · intro W hW
      have l1 : (loadRow 27 (.pointer (some ⟨w.heap.size, 0, none⟩))).run Try.prog W = .ok (.agg cs) W := load_blk (KA_4.out.below hW.all KA_4.out.lt) HCS.out
      go_simp
      try with_reducible rfl
    try simp only [Act.put, List.setIfInBounds_toArray, List.set_cons_zero, List.set_cons_succ]
    refine Reg.take 12 (v := ?_) rfl (by kernel_rfl) (fun _ _ _ h => h) rfl ?_ ?_
    rotate_left
    · intro W hW
      have l1 : (loadRow 27 (.pointer (some ⟨w.heap.size + 1, 0, none⟩))).run Try.prog W = .ok (.agg ds) W := load_blk (KB_4.out.below hW.all KB_4.out.lt) HDS.out
      go_simp
      try with_reducible rfl
    try simp only [Act.put, List.setIfInBounds_toArray, List.set_cons_zero, List.set_cons_succ]
    refine Reg.do_ 10 rfl (by kernel_rfl) rfl (fun K hK => ?_)
    go_simp
    refine (C3.out _ IR_4.out IS_4.out).mono ?_
    rintro e v3 ⟨rfl, b3⟩
    have KA_5 := Lib.hid (KA_4.out.below b3 KA_4.out.lt)
    have KB_5 := Lib.hid (KB_4.out.below b3 KB_4.out.lt)
    have BE_5 := Lib.hid (BE_4.out.trans (b3.mono BE_4.out.size))
    have IR_5 := Lib.hid (IR_4.out.below b3 (Nat.le_refl _))
    have IS_5 := Lib.hid (IS_4.out.below b3 (Nat.le_refl _))
    have S1_2 := Lib.hid (S1_1.out.below b3 (Nat.le_refl _))
    have S2_1 := Lib.hid (S2_0.out.below b3 (Nat.le_refl _))
    clear KA_4 KB_4 BE_4 IR_4 IS_4 S1_1 S2_0
    refine hK.out _ _ b3 ?_
    clear hK K b3
    try simp only [Act.put, List.setIfInBounds_toArray, List.set_cons_zero, List.set_cons_succ]
    refine Reg.do_ 13 rfl (by kernel_rfl) rfl (fun K hK => ?_)
    go_simp
    refine (C4.out _ IR_5.out IS_5.out).mono ?_
    rintro e v4 ⟨rfl, b4⟩
    have KA_6 := Lib.hid (KA_5.out.below b4 KA_5.out.lt)
    have KB_6 := Lib.hid (KB_5.out.below b4 KB_5.out.lt)
    have BE_6 := Lib.hid (BE_5.out.trans (b4.mono BE_5.out.size))
    have IR_6 := Lib.hid (IR_5.out.below b4 (Nat.le_refl _))
    have IS_6 := Lib.hid (IS_5.out.below b4 (Nat.le_refl _))
    have S1_3 := Lib.hid (S1_2.out.below b4 (Nat.le_refl _))
    have S2_2 := Lib.hid (S2_1.out.below b4 (Nat.le_refl _))
    clear KA_5 KB_5 BE_5 IR_5 IS_5 S1_2 S2_1
    refine hK.out _ _ b4 ?_
    clear hK K b4
    try simp only [Act.put, List.setIfInBounds_toArray, List.set_cons_zero, List.set_cons_succ]
    refine Reg.take 14 (v := ?_) rfl (by kernel_rfl) (fun _ _ _ h => h) rfl ?_ ?_
    rotate_left
    · intro W hW
      go_simp
      try with_reducible rfl
    try simp only [Act.put, List.setIfInBounds_toArray, List.set_cons_zero, List.set_cons_succ]
    refine Reg.take 15 (v := ?_) rfl (by kernel_rfl) (fun _ _ _ h => h) rfl ?_ ?_
    rotate_left
    · intro W hW
      go_simp
      try with_reducible rfl
    try simp only [Act.put, List.setIfInBounds_toArray, List.set_cons_zero, List.set_cons_succ]
    refine Reg.take 16 (v := ?_) rfl (by kernel_rfl) (fun _ _ _ h => h) rfl ?_ ?_
    rotate_left
    · intro W hW
      go_simp
      try with_reducible rfl
    try simp only [Act.put, List.setIfInBounds_toArray, List.set_cons_zero, List.set_cons_succ]
    refine Reg.take 17 (v := ?_) rfl (by kernel_rfl) (fun _ _ _ h => h) rfl ?_ ?_
    rotate_left
    · intro W hW
      have l1 : (loadRow 27 (.pointer (some ⟨w.heap.size, 0, none⟩))).run Try.prog W = .ok (.agg cs) W := load_blk (KA_6.out.below hW.all KA_6.out.lt) HCS.out
      go_simp
      try with_reducible rfl
    try simp only [Act.put, List.setIfInBounds_toArray, List.set_cons_zero, List.set_cons_succ]
    refine Reg.take 18 (v := ?_) rfl (by kernel_rfl) (fun _ _ _ h => h) rfl ?_ ?_
    rotate_left
    · intro W hW
      have l1 : (loadRow 27 (.pointer (some ⟨w.heap.size, 0, none⟩))).run Try.prog W = .ok (.agg cs) W := load_blk (KA_6.out.below hW.all KA_6.out.lt) HCS.out
      go_simp
      try with_reducible rfl
    try simp only [Act.put, List.setIfInBounds_toArray, List.set_cons_zero, List.set_cons_succ]
    refine Reg.do_ 19 rfl (by kernel_rfl) rfl (fun K hK => ?_)
    go_simp
    refine (C5.out _ IR_6.out).mono ?_
    rintro e v5 ⟨rfl, b5⟩
    have KA_7 := Lib.hid (KA_6.out.below b5 KA_6.out.lt)
    have KB_7 := Lib.hid (KB_6.out.below b5 KB_6.out.lt)
    have BE_7 := Lib.hid (BE_6.out.trans (b5.mono BE_6.out.size))
    have IR_7 := Lib.hid (IR_6.out.below b5 (Nat.le_refl _))
    have IS_7 := Lib.hid (IS_6.out.below b5 (Nat.le_refl _))
    have S1_4 := Lib.hid (S1_3.out.below b5 (Nat.le_refl _))
    have S2_3 := Lib.hid (S2_2.out.below b5 (Nat.le_refl _))
    clear KA_6 KB_6 BE_6 IR_6 IS_6 S1_3 S2_2
    refine hK.out _ _ b5 ?_
    clear hK K b5
    try simp only [Act.put, List.setIfInBounds_toArray, List.set_cons_zero, List.set_cons_succ]
    refine Reg.take 20 (v := ?_) rfl (by kernel_rfl) (fun _ _ _ h => h) rfl ?_ ?_
    rotate_left
    · intro W hW
      go_simp
      try with_reducible rfl
    try simp only [Act.put, List.setIfInBounds_toArray, List.set_cons_zero, List.set_cons_succ]
    refine Reg.take 21 (v := ?_) rfl (by kernel_rfl) (fun _ _ _ h => h) rfl ?_ ?_
    rotate_left
    · intro W hW
      go_simp
      try with_reducible rfl
    try simp only [Act.put, List.setIfInBounds_toArray, List.set_cons_zero, List.set_cons_succ]
    refine Reg.do_ 22 rfl (by kernel_rfl) rfl (fun K hK => ?_)
    go_simp
    refine (awake_any _).mono ?_
    rintro e v6 ⟨rfl, b6⟩
    have KA_8 := Lib.hid (KA_7.out.below b6 KA_7.out.lt)
    have KB_8 := Lib.hid (KB_7.out.below b6 KB_7.out.lt)
    have BE_8 := Lib.hid (BE_7.out.trans (b6.mono BE_7.out.size))
    have IR_8 := Lib.hid (IR_7.out.below b6 (Nat.le_refl _))
    have IS_8 := Lib.hid (IS_7.out.below b6 (Nat.le_refl _))
    have S1_5 := Lib.hid (S1_4.out.below b6 (Nat.le_refl _))
    have S2_4 := Lib.hid (S2_3.out.below b6 (Nat.le_refl _))
    clear KA_7 KB_7 BE_7 IR_7 IS_7 S1_4 S2_3
    refine hK.out _ _ b6 ?_
    clear hK K b6
    try simp only [Act.put, List.setIfInBounds_toArray, List.set_cons_zero, List.set_cons_succ]
    refine Reg.take 23 (v := ?_) rfl (by kernel_rfl) (fun _ _ _ h => h) rfl ?_ ?_
    rotate_left
    · intro W hW
      go_simp
      try with_reducible rfl
    try simp only [Act.put, List.setIfInBounds_toArray, List.set_cons_zero, List.set_cons_succ]
    refine Reg.take 24 (v := ?_) rfl (by kernel_rfl) (fun _ _ _ h => h) rfl ?_ ?_
    rotate_left
    · intro W hW
      go_simp
      try with_reducible rfl
    try simp only [Act.put, List.setIfInBounds_toArray, List.set_cons_zero, List.set_cons_succ]
    refine Reg.done (by kernel_rfl) ?_
    go_wp2_with fail
    go_ret
    exact ⟨rfl, BE_8.out⟩
end Go.Proofs.Ythpmngdpgniehaa.Jr
