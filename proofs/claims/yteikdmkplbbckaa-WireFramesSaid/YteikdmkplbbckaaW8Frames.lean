/-
  The walk of WireFrames: it returns true, and changes nothing that was there. Conditions: the bytes lie in memory.
-/
import Derived.Test.YteikdmkplbbckaaW8Awake
import Derived.Test.YteikdmkplbbckaaFrR
import Derived.Test.YteikdmkplbbckaaConv
import Derived.Test.YteikdmkplbbckaaReg
namespace Go.Proofs.Yteikdmkplbbckaa.Wr
open Go.RowKit Go.Proofs.Yteikdmkplbbckaa.Mem Go.Proofs.Yteikdmkplbbckaa.Eqs
attribute [local go_sem ↓] Go.wp_at_zero Go.wp_at_succ exec_conv

/-- What the region needs of a call of Frame: a slice, and that it turns to the string, now and later. -/
def FrOK (m : Nat) (s : ByteArray) (W : World) (e : Ending) (w' : World) : Prop :=
  ∃ A5 c5, e = .returned (.slice A5 m c5) ∧ (∀ W', Below w'.heap.size w' W' → (convAt (.slice A5 m c5)).run Try.prog W' = .ok (.string s) W') ∧ Below W.heap.size W w'
theorem frOK_of {x : List UInt8} {W w' : World} {e : Ending} (h : RetBytes x W e w') : FrOK x.length ⟨x.toArray⟩ W e w' := by
  obtain ⟨v5, rfl, o5, f5, b5⟩ := h
  obtain ⟨A5, c5, rfl, s5⟩ := own_form o5
  exact ⟨A5, c5, rfl, fun W' hb => run_conv (s5.below hb (Nat.le_refl _)) c5, b5⟩
theorem frame_both (b : List UInt8) (A : Option Addr) (n c : Nat) (hn : n ≤ 20000) : ∃ m s, Hid (∀ W, Sl W 1 A n (byts b) → Calls Try.prog 40 #[.slice A n c] W (FrOK m s W)) ∧ Hid (∀ W, Sl W 1 A n (byts b) → Calls Try.prog 41 #[.slice A n c] W (FrOK m s W)) :=
  ⟨(frame b).length, ⟨(frame b).toArray⟩, fun W hs => (frame_any b A n c W hs (by omega)).mono fun _ _ h => frOK_of h, fun W hs => (frameR_any b A n c W hs (by omega)).mono fun _ _ h => frOK_of h⟩

set_option maxRecDepth 100000 in
set_option maxHeartbeats 2000000 in
theorem frames_walk (b : List UInt8) (A : Option Addr) (n c : Nat) (p : Int) (w : World) (hs : Sl w 1 A n (byts b)) (hc : n ≤ c) (hcm : c ≤ 9223372036854775807) :
    Calls Try.prog 7 #[.slice A n c, .int .i64 p] w fun e w' => e = .returned (.bool true) ∧ Below w.heap.size w w' := by
  have HS := Lib.hid hs
  clear hs
  by_cases hn : n ≤ 20000
  · have hni : (n : Int) ≤ 20000 := by omega
    go_enter Try.func7, Try.ntmps7
    go_wp2_with fail
    refine (next_any b A n c p _ HS.out (by omega) hc hcm).mono ?_
    rintro e w1 ⟨v1, rfl, o1, f1, b1⟩
    obtain ⟨A1, c1, rfl, s1⟩ := own_form o1
    have B1 := Lib.hid b1
    have S1 := Lib.hid s1
    clear o1 f1 b1 s1
    go_wp2_with fail
    refine (nextR_any b A n c p _ (HS.out.below B1.out (Nat.le_refl _)) (by omega) hc hcm).mono ?_
    rintro e w2 ⟨v2, rfl, o2, f2, b2⟩
    obtain ⟨A2, c2, rfl, s2⟩ := own_form o2
    generalize nres (next b p) = r at *
    obtain ⟨x, m, er⟩ := r
    have B2 := Lib.hid (B1.out.trans (b2.mono B1.out.size))
    obtain ⟨fm, fs, FA, FB⟩ := frame_both b A n c hn
    have HC : Hid (∀ W, Below w2.heap.size w2 W → Sl W 1 A n (byts b) ∧ (convAt (.slice A1 x.length c1)).run Try.prog W = .ok (.string ⟨x.toArray⟩) W ∧ (convAt (.slice A2 x.length c2)).run Try.prog W = .ok (.string ⟨x.toArray⟩) W) := fun W hb =>
      ⟨(HS.out.below B2.out (Nat.le_refl _)).below hb (Nat.le_refl _),
       run_conv ((S1.out.below b2 (Nat.le_refl _)).below hb (Nat.le_refl _)) c1,
       run_conv (s2.below hb (Nat.le_refl _)) c2⟩
    generalize x.length = xl at *
    generalize (⟨x.toArray⟩ : ByteArray) = xs at *
    clear o2 f2 b2 s2 HS B1 S1 hn hni hc hcm
    go_wp2_with fail
    have E0 : Hid (Below w2.heap.size w2 w2.drew) := (Below.refl _ _).drew
    refine Reg.start (by kernel_rfl) ?_
    refine Reg.take 0 (v := ?_) rfl (by kernel_rfl) (fun _ _ _ h => h) rfl ?_ ?_
    rotate_left
    · intro W hW
      go_simp
      try with_reducible rfl
    try simp only [Act.put, List.setIfInBounds_toArray, List.set_cons_zero, List.set_cons_succ]
    refine Reg.take 3 (v := ?_) rfl (by kernel_rfl) (fun _ _ _ h => h) rfl ?_ ?_
    rotate_left
    · intro W hW
      go_simp
      try with_reducible rfl
    try simp only [Act.put, List.setIfInBounds_toArray, List.set_cons_zero, List.set_cons_succ]
    refine Reg.do_ 1 rfl (by kernel_rfl) rfl (fun K hK => ?_)
    go_simp
    refine (FA.out _ (HC.out _ E0.out).1).mono ?_
    rintro e w5 ⟨A5, c5, rfl, k5, b5⟩
    have K5 := Lib.hid k5
    have E1 := Lib.hid (E0.out.trans (b5.mono E0.out.size))
    clear k5
    refine hK.out _ _ b5 ?_
    clear hK K b5
    try simp only [Act.put, List.setIfInBounds_toArray, List.set_cons_zero, List.set_cons_succ]
    refine Reg.take 2 (v := ?_) rfl (by kernel_rfl) (fun _ _ _ h => h) rfl ?_ ?_
    rotate_left
    · intro W hW
      have q := K5.out W hW
      go_simp
      try with_reducible rfl
    try simp only [Act.put, List.setIfInBounds_toArray, List.set_cons_zero, List.set_cons_succ]
    refine Reg.do_ 4 rfl (by kernel_rfl) rfl (fun K hK => ?_)
    go_simp
    refine (FB.out _ (HC.out _ E1.out).1).mono ?_
    rintro e w6 ⟨A6, c6, rfl, k6, b6⟩
    have K6 := Lib.hid k6
    have E2 := Lib.hid (E1.out.trans (b6.mono E1.out.size))
    clear k6
    refine hK.out _ _ b6 ?_
    clear hK K b6
    try simp only [Act.put, List.setIfInBounds_toArray, List.set_cons_zero, List.set_cons_succ]
    refine Reg.take 5 (v := ?_) rfl (by kernel_rfl) (fun _ _ _ h => h) rfl ?_ ?_
    rotate_left
    · intro W hW
      have q := K6.out W hW
      go_simp
      try with_reducible rfl
    try simp only [Act.put, List.setIfInBounds_toArray, List.set_cons_zero, List.set_cons_succ]
    refine Reg.take 6 (v := ?_) rfl (by kernel_rfl) (fun _ _ _ h => h) rfl ?_ ?_
    rotate_left
    · intro W hW
      go_simp
      try with_reducible rfl
    try simp only [Act.put, List.setIfInBounds_toArray, List.set_cons_zero, List.set_cons_succ]
    refine Reg.take 7 (v := ?_) rfl (by kernel_rfl) (fun _ _ _ h => h) rfl ?_ ?_
    rotate_left
    · intro W hW
      go_simp
      try with_reducible rfl
    try simp only [Act.put, List.setIfInBounds_toArray, List.set_cons_zero, List.set_cons_succ]
    refine Reg.take 8 (v := ?_) rfl (by kernel_rfl) (fun _ _ _ h => h) rfl ?_ ?_
    rotate_left
    · intro W hW
      go_simp
      try with_reducible rfl
    try simp only [Act.put, List.setIfInBounds_toArray, List.set_cons_zero, List.set_cons_succ]
    refine Reg.take 9 (v := ?_) rfl (by kernel_rfl) (fun _ _ _ h => h) rfl ?_ ?_
    rotate_left
    · intro W hW
      have q := (HC.out W (E2.out.trans (Below.mono hW E2.out.size))).2.1
      go_simp
      try with_reducible rfl
    try simp only [Act.put, List.setIfInBounds_toArray, List.set_cons_zero, List.set_cons_succ]
    refine Reg.take 10 (v := ?_) rfl (by kernel_rfl) (fun _ _ _ h => h) rfl ?_ ?_
    rotate_left
    · intro W hW
      go_simp
      try with_reducible rfl
    try simp only [Act.put, List.setIfInBounds_toArray, List.set_cons_zero, List.set_cons_succ]
    refine Reg.take 11 (v := ?_) rfl (by kernel_rfl) (fun _ _ _ h => h) rfl ?_ ?_
    rotate_left
    · intro W hW
      have q := (HC.out W (E2.out.trans (Below.mono hW E2.out.size))).2.2
      go_simp
      try with_reducible rfl
    try simp only [Act.put, List.setIfInBounds_toArray, List.set_cons_zero, List.set_cons_succ]
    refine Reg.take 12 (v := ?_) rfl (by kernel_rfl) (fun _ _ _ h => h) rfl ?_ ?_
    rotate_left
    · intro W hW
      go_simp
      try with_reducible rfl
    try simp only [Act.put, List.setIfInBounds_toArray, List.set_cons_zero, List.set_cons_succ]
    refine Reg.take 13 (v := ?_) rfl (by kernel_rfl) (fun _ _ _ h => h) rfl ?_ ?_
    rotate_left
    · intro W hW
      go_simp
      try with_reducible rfl
    try simp only [Act.put, List.setIfInBounds_toArray, List.set_cons_zero, List.set_cons_succ]
    refine Reg.take 14 (v := ?_) rfl (by kernel_rfl) (fun _ _ _ h => h) rfl ?_ ?_
    rotate_left
    · intro W hW
      go_simp
      try with_reducible rfl
    try simp only [Act.put, List.setIfInBounds_toArray, List.set_cons_zero, List.set_cons_succ]
    refine Reg.take 15 (v := ?_) rfl (by kernel_rfl) (fun _ _ _ h => h) rfl ?_ ?_
    rotate_left
    · intro W hW
      go_simp
      try with_reducible rfl
    try simp only [Act.put, List.setIfInBounds_toArray, List.set_cons_zero, List.set_cons_succ]
    refine Reg.take 16 (v := ?_) rfl (by kernel_rfl) (fun _ _ _ h => h) rfl ?_ ?_
    rotate_left
    · intro W hW
      go_simp
      try with_reducible rfl
    try simp only [Act.put, List.setIfInBounds_toArray, List.set_cons_zero, List.set_cons_succ]
    refine Reg.take 17 (v := ?_) rfl (by kernel_rfl) (fun _ _ _ h => h) rfl ?_ ?_
    rotate_left
    · intro W hW
      go_simp
      try with_reducible rfl
    try simp only [Act.put, List.setIfInBounds_toArray, List.set_cons_zero, List.set_cons_succ]
    refine Reg.take 18 (v := ?_) rfl (by kernel_rfl) (fun _ _ _ h => h) rfl ?_ ?_
    rotate_left
    · intro W hW
      go_simp
      try with_reducible rfl
    try simp only [Act.put, List.setIfInBounds_toArray, List.set_cons_zero, List.set_cons_succ]
    refine Reg.take 19 (v := ?_) rfl (by kernel_rfl) (fun _ _ _ h => h) rfl ?_ ?_
    rotate_left
    · intro W hW
      go_simp
      try with_reducible rfl
    try simp only [Act.put, List.setIfInBounds_toArray, List.set_cons_zero, List.set_cons_succ]
    refine Reg.take 20 (v := ?_) rfl (by kernel_rfl) (fun _ _ _ h => h) rfl ?_ ?_
    rotate_left
    · intro W hW
      go_simp
      try with_reducible rfl
    try simp only [Act.put, List.setIfInBounds_toArray, List.set_cons_zero, List.set_cons_succ]
    refine Reg.take 21 (v := ?_) rfl (by kernel_rfl) (fun _ _ _ h => h) rfl ?_ ?_
    rotate_left
    · intro W hW
      go_simp
      try with_reducible rfl
    try simp only [Act.put, List.setIfInBounds_toArray, List.set_cons_zero, List.set_cons_succ]
    refine Reg.take 22 (v := ?_) rfl (by kernel_rfl) (fun _ _ _ h => h) rfl ?_ ?_
    rotate_left
    · intro W hW
      go_simp
      try with_reducible rfl
    try simp only [Act.put, List.setIfInBounds_toArray, List.set_cons_zero, List.set_cons_succ]
    refine Reg.take 23 (v := ?_) rfl (by kernel_rfl) (fun _ _ _ h => h) rfl ?_ ?_
    rotate_left
    · intro W hW
      go_simp
      try with_reducible rfl
    try simp only [Act.put, List.setIfInBounds_toArray, List.set_cons_zero, List.set_cons_succ]
    refine Reg.take 24 (v := ?_) rfl (by kernel_rfl) (fun _ _ _ h => h) rfl ?_ ?_
    rotate_left
    · intro W hW
      go_simp
      try with_reducible rfl
    try simp only [Act.put, List.setIfInBounds_toArray, List.set_cons_zero, List.set_cons_succ]
    refine Reg.do_ 25 rfl (by kernel_rfl) rfl (fun K hK => ?_)
    go_simp
    refine (awake8 _).mono ?_
    rintro e w7 ⟨rfl, b7⟩
    have E3 := Lib.hid (E2.out.trans (b7.mono E2.out.size))
    refine hK.out _ _ b7 ?_
    clear hK K b7
    try simp only [Act.put, List.setIfInBounds_toArray, List.set_cons_zero, List.set_cons_succ]
    refine Reg.take 26 (v := ?_) rfl (by kernel_rfl) (fun _ _ _ h => h) rfl ?_ ?_
    rotate_left
    · intro W hW
      go_simp
      try with_reducible rfl
    try simp only [Act.put, List.setIfInBounds_toArray, List.set_cons_zero, List.set_cons_succ]
    refine Reg.take 27 (v := ?_) rfl (by kernel_rfl) (fun _ _ _ h => h) rfl ?_ ?_
    rotate_left
    · intro W hW
      go_simp
      try with_reducible rfl
    try simp only [Act.put, List.setIfInBounds_toArray, List.set_cons_zero, List.set_cons_succ]
    refine Reg.done (by kernel_rfl) ?_
    go_wp2_with fail
    go_ret
    exact ⟨rfl, B2.out.trans (E3.out.mono B2.out.size)⟩
  · have hni : (20000 : Int) < (n : Int) := by omega
    clear hn
    go_enter Try.func7, Try.ntmps7
    go_wp2_with fail
    refine (awake8 _).mono ?_
    rintro e w1 ⟨rfl, b1⟩
    have B1 := Lib.hid b1
    clear b1
    go_wp2_with fail
    go_ret
    exact ⟨rfl, B1.out⟩
end Go.Proofs.Yteikdmkplbbckaa.Wr
