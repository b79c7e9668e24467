/-
  The law CommitmentDoes: the walk. Conditions: the list of calls lies in memory.
-/
import Derived.Test.YtdgekhbmcmojdaaCmA
import Derived.Test.YtdgekhbmcmojdaaCmB
import Derived.Test.YtdgekhbmcmojdaaCmR2
import Derived.Test.YtdgekhbmcmojdaaReg
namespace Go.Proofs.Ytdgekhbmcmojdaa.Cm
open Go.RowKit Go.Proofs.Ytdgekhbmcmojdaa.Mem Go.Proofs.Ytdgekhbmcmojdaa.Dg Go.Proofs.Ytdgekhbmcmojdaa.Mp
attribute [local go_sem ↓] exec_load_rv exec_store_rv exec_load_tx exec_store_tx
theorem do2S {P : Program} {Q : Exit → Act → World → Prop} {md : Region.Mode} {S : World → Prop} {l r r' : List Oper} {oi oj : Oper} {fuel : Nat} {listed : Array Bool} {a : Act} {w : World} (i j : Nat) (hi : l.drop i = oi :: r) (hj : l.drop j = oj :: r') (hf : Region.ready md l.toArray listed = [i, j])
    (hwi : Region.wanted oi (yielded l.toArray a.tmps) = true) (hwj : Region.wanted oj (yielded l.toArray a.tmps) = true)
    (h : ∀ K : Act → World → Prop, Shut (∀ a' w', S w' → wpAnyH P md l.toArray Q S fuel (listed.setIfInBounds i true) a' w' → K a' w') → Oper.wp P oi a w K Q)
    (h' : ∀ K : Act → World → Prop, Shut (∀ a' w', S w' → wpAnyH P md l.toArray Q S fuel (listed.setIfInBounds j true) a' w' → K a' w') → Oper.wp P oj a w K Q) : wpAnyH P md l.toArray Q S (fuel + 1) listed a w := by
  refine wpAnyH_ready hf (by simp) (AllReadyH.cons (Reg.at_drop hi) (fun K hK => ?_) (AllReadyH.cons (Reg.at_drop hj) (fun K hK => ?_) AllReadyH.nil))
  · rw [if_pos hwi]
    exact h K (fun a' w' h1 h2 => hK.out a' w' h1 fun _ => h2)
  · rw [if_pos hwj]
    exact h' K (fun a' w' h1 h2 => hK.out a' w' h1 fun _ => h2)
theorem ints_any (xs : List Int) (v v2 : Value) (w : World) (ha : w.ownsRow 0 3 1 v xs.length (ints xs)) (hb : w.ownsRow 0 3 1 v2 xs.length (ints xs)) (hn : xs.length ≤ 9223372036854775807) :
    Calls Try.prog 22 #[v, v2] w fun e w' => e = .returned (.bool true) ∧ Below w.heap.size w w' := by
  obtain ⟨A, c, rfl, hs⟩ := own_form ha
  obtain ⟨A2, c2, rfl, hs2⟩ := own_form hb
  exact ints_yes xs _ _ A A2 c c2 w hs hs2 hn
theorem missing_short (s : St) (h : s.ok) : (missing s).length ≤ 9223372036854775807 := by
  have := missTo_len s s.n.toNat
  unfold missing
  have := h.n.2
  omega
set_option maxRecDepth 100000 in
set_option maxHeartbeats 8000000 in
theorem does_some (a q : Int) (xs : List Do) (A : Option Addr) (m c : Nat) (w : World) (hn : xs.length = m) (h60 : m ≤ 60) (h : DoSl w A xs) (h1 : 1 ≤ a) (h2 : a ≤ 8) (h3 : 1 ≤ q) (h4 : q ≤ a) :
    Calls Try.prog 4 #[.int .i64 a, .int .i64 q, .slice A m c] w fun e w' => e = .returned (.bool true) ∧ Below w.heap.size w w' := by
  have HN := Lib.hid hn
  have HX := Lib.hid h
  have H1 := Lib.hid h1
  have H2 := Lib.hid h2
  have H3 := Lib.hid h3
  have H4 := Lib.hid h4
  have h60i : (m : Int) ≤ 60 := by omega
  clear hn h h1 h2 h3 h4
  go_enter Try.func4, Try.ntmps4
  go_wp2_with fail
  refine (new_to _ H1.out H2.out H3.out H4.out).mono ?_
  rintro e v0 ⟨g, d, v, rfl, c0, o0, b0⟩
  have C0 := Lib.hid c0
  have O0 := Lib.hid o0
  have B0 := Lib.hid b0
  clear c0 o0 b0
  go_wp2_with fail
  refine (newR_yes a q _ H1.out H2.out H3.out H4.out).mono ?_
  rintro e v1 ⟨g2, rfl, c1, o1, b1⟩
  have nR : ∀ k, ownR g2 (.slice none 0 0) (.slice none 0 0) k → k = g2 := by
    intro k hk
    rcases hk with rfl | hk | hk
    · rfl
    · cases hk
    · cases hk
  have ap : ∀ k, own3 g d v k → ¬ ownR g2 (.slice none 0 0) (.slice none 0 0) k := by
    intro k hk hk'
    have e := nR k hk'
    have := C0.out.lt hk
    omega
  have ob : ∀ k, ownR g2 (.slice none 0 0) (.slice none 0 0) k → w.heap.size ≤ k := by
    intro k hk
    have e := nR k hk
    have := B0.out.size
    omega
  have T0 : Hid (Both w v1 g d v g2 (.slice none 0 0) (.slice none 0 0) ⟨a, q, false, [], []⟩ ⟨a, q, false, [], []⟩ []) := Lib.hid ⟨C0.out.below b1, c1, ap, O0.out, ob, B0.out.trans (b1.mono B0.out.size)⟩
  clear nR ap ob
  clear c1 o1 b1 C0 O0 B0
  go_wp2_with fail
  have F0 : Hid (Fine ⟨a, q, false, [], []⟩ 0) := Lib.hid (new_fine H1.out H2.out H3.out H4.out)
  clear H1 H2 H3 H4
  go_loopw [8, 10, 11] (fun e f j wr => ∃ (i : Nat) (er : Int) (vc vr : Value) (ts : List (Int × Int × Int)) (s : St), i ≤ m ∧ j = .int .i64 i ∧ e = .int .i64 er ∧ f = .int .i64 er ∧ Hid (Both w wr g d v g2 vc vr s s ts) ∧ Hid (Fine s i)) (fun _ _ j _ => m - (intOf j).toNat)
  case atStart => exact ⟨0, 0, _, _, _, _, by omega, rfl, rfl, rfl, T0, F0⟩
  case round =>
    obtain ⟨i, er, vc, vr, ts, s, hi, rfl, rfl, rfl, HB, HF⟩ := hrel
    clear T0 F0
    by_cases hlt : i < m
    · obtain ⟨y, hy⟩ : ∃ y, xs[i]? = some y := ⟨_, List.getElem?_eq_getElem (by have := HN.out; omega)⟩
      have HXw : DoSl wr A xs := fun k x hk => by
        obtain ⟨b, off, e, hl, ⟨q0, q1, q2, q3, q4⟩, r1, r2, r3⟩ := HX.out k x hk
        exact ⟨b, off, e, Nat.lt_of_lt_of_le hl HB.out.old.size, ⟨(HB.out.old.cell hl).trans q0, (HB.out.old.cell hl).trans q1, (HB.out.old.cell hl).trans q2, (HB.out.old.cell hl).trans q3, (HB.out.old.cell hl).trans q4⟩, r1, r2, r3⟩
      obtain ⟨b, off, rfl, kq, hp, hx, hn⟩ := HXw.at hy
      obtain ⟨kd, p, x, n, t⟩ := y
      have KQ : Hid (∀ W, Below wr.heap.size wr W → W.cell? ⟨b, off + i * 5, none⟩ = some (.int .i64 kd) ∧ W.cell? ⟨b, off + i * 5 + 1, none⟩ = some (.int .i64 p) ∧ W.cell? ⟨b, off + i * 5 + 2, none⟩ = some (.int .u64 x) ∧ W.cell? ⟨b, off + i * 5 + 3, none⟩ = some (.int .u64 n) ∧ W.cell? ⟨b, off + i * 5 + 4, none⟩ = some (.int .u64 t)) := kq
      have HP : Hid (I64 p) := hp
      have HV : Hid (U64 x) := hx
      have HO : Hid (U64 n) := hn
      have HI : Hid (i < 60) := Lib.hid (by omega)
      clear HXw hy kq hp hx hn
      have hlti : (i : Int) < (m : Int) := by omega
      have h0i : (0 : Int) ≤ (i : Int) := by omega
      go_wp2_with fail
      refine Reg.startS (fun W => Below wr.heap.size wr W) (by kernel_rfl) ((Below.refl _ wr).drew) ?_
      have hSw : Below wr.heap.size wr wr.drew := (Below.refl _ wr).drew
      refine Reg.takeS 0 (v := ?_) rfl (by kernel_rfl) (fun _ _ _ h => h) rfl ?_ hSw ?_
      rotate_left
      · intro W hW
        go_simp
        try with_reducible rfl
      try simp only [Act.put, List.setIfInBounds_toArray, List.set_cons_zero, List.set_cons_succ]
      refine Reg.takeS 1 (v := ?_) rfl (by kernel_rfl) (fun _ _ _ h => h) rfl ?_ hSw ?_
      rotate_left
      · intro W hW
        go_simp
        try with_reducible rfl
      try simp only [Act.put, List.setIfInBounds_toArray, List.set_cons_zero, List.set_cons_succ]
      refine Reg.takeS 2 (v := ?_) rfl (by kernel_rfl) (fun _ _ _ h => h) rfl ?_ hSw ?_
      rotate_left
      · intro W hW
        go_simp
        try with_reducible rfl
      try simp only [Act.put, List.setIfInBounds_toArray, List.set_cons_zero, List.set_cons_succ]
      refine Reg.takeS 3 (v := ?_) rfl (by kernel_rfl) (fun _ _ _ h => h) rfl ?_ hSw ?_
      rotate_left
      · intro W hW
        go_simp
        try with_reducible rfl
      try simp only [Act.put, List.setIfInBounds_toArray, List.set_cons_zero, List.set_cons_succ]
      refine Reg.takeS 4 (v := ?_) rfl (by kernel_rfl) (fun _ _ _ h => h) rfl ?_ hSw ?_
      rotate_left
      · intro W hW
        have qq := (KQ.out W (hW)).2.1
        go_simp
        try with_reducible rfl
      try simp only [Act.put, List.setIfInBounds_toArray, List.set_cons_zero, List.set_cons_succ]
      refine Reg.takeS 5 (v := ?_) rfl (by kernel_rfl) (fun _ _ _ h => h) rfl ?_ hSw ?_
      rotate_left
      · intro W hW
        go_simp
        try with_reducible rfl
      try simp only [Act.put, List.setIfInBounds_toArray, List.set_cons_zero, List.set_cons_succ]
      refine Reg.takeS 6 (v := ?_) rfl (by kernel_rfl) (fun _ _ _ h => h) rfl ?_ hSw ?_
      rotate_left
      · intro W hW
        go_simp
        try with_reducible rfl
      try simp only [Act.put, List.setIfInBounds_toArray, List.set_cons_zero, List.set_cons_succ]
      refine Reg.takeS 7 (v := ?_) rfl (by kernel_rfl) (fun _ _ _ h => h) rfl ?_ hSw ?_
      rotate_left
      · intro W hW
        go_simp
        try with_reducible rfl
      try simp only [Act.put, List.setIfInBounds_toArray, List.set_cons_zero, List.set_cons_succ]
      refine Reg.takeS 8 (v := ?_) rfl (by kernel_rfl) (fun _ _ _ h => h) rfl ?_ hSw ?_
      rotate_left
      · intro W hW
        go_simp
        try with_reducible rfl
      try simp only [Act.put, List.setIfInBounds_toArray, List.set_cons_zero, List.set_cons_succ]
      refine Reg.takeS 9 (v := ?_) rfl (by kernel_rfl) (fun _ _ _ h => h) rfl ?_ hSw ?_
      rotate_left
      · intro W hW
        have qq := (KQ.out W (hW)).2.2.1
        go_simp
        try with_reducible rfl
      try simp only [Act.put, List.setIfInBounds_toArray, List.set_cons_zero, List.set_cons_succ]
      refine Reg.takeS 10 (v := ?_) rfl (by kernel_rfl) (fun _ _ _ h => h) rfl ?_ hSw ?_
      rotate_left
      · intro W hW
        go_simp
        try with_reducible rfl
      try simp only [Act.put, List.setIfInBounds_toArray, List.set_cons_zero, List.set_cons_succ]
      refine Reg.takeS 11 (v := ?_) rfl (by kernel_rfl) (fun _ _ _ h => h) rfl ?_ hSw ?_
      rotate_left
      · intro W hW
        go_simp
        try with_reducible rfl
      try simp only [Act.put, List.setIfInBounds_toArray, List.set_cons_zero, List.set_cons_succ]
      refine Reg.takeS 12 (v := ?_) rfl (by kernel_rfl) (fun _ _ _ h => h) rfl ?_ hSw ?_
      rotate_left
      · intro W hW
        go_simp
        try with_reducible rfl
      try simp only [Act.put, List.setIfInBounds_toArray, List.set_cons_zero, List.set_cons_succ]
      refine Reg.takeS 13 (v := ?_) rfl (by kernel_rfl) (fun _ _ _ h => h) rfl ?_ hSw ?_
      rotate_left
      · intro W hW
        go_simp
        try with_reducible rfl
      try simp only [Act.put, List.setIfInBounds_toArray, List.set_cons_zero, List.set_cons_succ]
      refine Reg.takeS 14 (v := ?_) rfl (by kernel_rfl) (fun _ _ _ h => h) rfl ?_ hSw ?_
      rotate_left
      · intro W hW
        have qq := (KQ.out W (hW)).2.2.2.1
        go_simp
        try with_reducible rfl
      try simp only [Act.put, List.setIfInBounds_toArray, List.set_cons_zero, List.set_cons_succ]
      refine Reg.takeS 15 (v := ?_) rfl (by kernel_rfl) (fun _ _ _ h => h) rfl ?_ hSw ?_
      rotate_left
      · intro W hW
        go_simp
        try with_reducible rfl
      try simp only [Act.put, List.setIfInBounds_toArray, List.set_cons_zero, List.set_cons_succ]
      refine Reg.doS 16 rfl (by kernel_rfl) rfl (fun K hK => ?_)
      go_simp
      have F : Below wr.heap.size wr ((wr.alloc (.cells #[.int .i64 0, .int .u64 0, .int .u64 0] 24)).drew) := (Below.refl _ wr).alloc (Nat.le_refl _) _ |>.drew
      refine hK.out _ _ F ?_
      clear hK K F hSw
      try simp only [Act.put, List.setIfInBounds_toArray, List.set_cons_zero, List.set_cons_succ]
      refine Reg.doS 17 rfl (by kernel_rfl) rfl (fun K hK => ?_)
      go_simp
      have kz : Blk ((wr.alloc (.cells #[.int .i64 0, .int .u64 0, .int .u64 0] 24)).drew) wr.heap.size 24 #[.int .i64 0, .int .u64 0, .int .u64 0] := Blk.new wr _ _
      have st := store_rv (cs := #[.int .i64 p, .int .u64 x, .int .u64 n]) kz rfl rfl rfl
      obtain ⟨W1, hW1⟩ : ∃ W1, W1 = World.setRow ((wr.alloc (.cells #[.int .i64 0, .int .u64 0, .int .u64 0] 24)).drew) wr.heap.size #[.int .i64 p, .int .u64 x, .int .u64 n] := ⟨_, rfl⟩
      have F : Below wr.heap.size wr W1 := by rw [hW1]; exact bel_setRow (((Below.refl _ wr).alloc (Nat.le_refl _) _).drew) (Nat.le_refl _) _
      have KR : Hid (Blk W1 wr.heap.size 24 #[.int .i64 p, .int .u64 x, .int .u64 n]) := Lib.hid (by rw [hW1]; exact Blk_setRow kz _)
      rw [← hW1] at st
      have F := Lib.hid F
      clear hW1 kz
      go_simp
      clear st
      have F := F.out
      have F1 := Lib.hid F
      have HB1 := Lib.hid (HB.out.below F)
      have NR := Lib.hid (HB.out.far (Nat.le_refl wr.heap.size))
      refine hK.out _ _ F ?_
      clear hK K F
      try simp only [Act.put]
      refine Reg.done (by kernel_rfl) ?_
      go_wp2_with fail
      refine Reg.startS (fun W => Below W1.heap.size W1 W) (by kernel_rfl) ((Below.refl _ W1).drew) ?_
      have hSw : Below W1.heap.size W1 W1.drew := (Below.refl _ W1).drew
      refine Reg.takeS 0 (v := ?_) rfl (by kernel_rfl) (fun _ _ _ h => h) rfl ?_ hSw ?_
      rotate_left
      · intro W hW
        go_simp
        try with_reducible rfl
      try simp only [Act.put, List.setIfInBounds_toArray, List.set_cons_zero, List.set_cons_succ]
      refine Reg.takeS 1 (v := ?_) rfl (by kernel_rfl) (fun _ _ _ h => h) rfl ?_ hSw ?_
      rotate_left
      · intro W hW
        go_simp
        try with_reducible rfl
      try simp only [Act.put, List.setIfInBounds_toArray, List.set_cons_zero, List.set_cons_succ]
      refine Reg.takeS 2 (v := ?_) rfl (by kernel_rfl) (fun _ _ _ h => h) rfl ?_ hSw ?_
      rotate_left
      · intro W hW
        go_simp
        try with_reducible rfl
      try simp only [Act.put, List.setIfInBounds_toArray, List.set_cons_zero, List.set_cons_succ]
      refine Reg.takeS 3 (v := ?_) rfl (by kernel_rfl) (fun _ _ _ h => h) rfl ?_ hSw ?_
      rotate_left
      · intro W hW
        go_simp
        try with_reducible rfl
      try simp only [Act.put, List.setIfInBounds_toArray, List.set_cons_zero, List.set_cons_succ]
      refine Reg.takeS 4 (v := ?_) rfl (by kernel_rfl) (fun _ _ _ h => h) rfl ?_ hSw ?_
      rotate_left
      · intro W hW
        have qq := (KQ.out W (F1.out.trans (hW.mono F1.out.size))).2.1
        go_simp
        try with_reducible rfl
      try simp only [Act.put, List.setIfInBounds_toArray, List.set_cons_zero, List.set_cons_succ]
      refine Reg.takeS 5 (v := ?_) rfl (by kernel_rfl) (fun _ _ _ h => h) rfl ?_ hSw ?_
      rotate_left
      · intro W hW
        have ld : (loadRow 24 (.pointer (some ⟨wr.heap.size, 0, none⟩))).run Try.prog W = .ok (.agg #[.int .i64 p, .int .u64 x, .int .u64 n]) W := load_rv (KR.out.below hW KR.out.lt) rfl
        go_simp
        try with_reducible rfl
      try simp only [Act.put, List.setIfInBounds_toArray, List.set_cons_zero, List.set_cons_succ]
      refine Reg.takeS 7 (v := ?_) rfl (by kernel_rfl) (fun _ _ _ h => h) rfl ?_ hSw ?_
      rotate_left
      · intro W hW
        go_simp
        try with_reducible rfl
      try simp only [Act.put, List.setIfInBounds_toArray, List.set_cons_zero, List.set_cons_succ]
      refine Reg.takeS 8 (v := ?_) rfl (by kernel_rfl) (fun _ _ _ h => h) rfl ?_ hSw ?_
      rotate_left
      · intro W hW
        go_simp
        try with_reducible rfl
      try simp only [Act.put, List.setIfInBounds_toArray, List.set_cons_zero, List.set_cons_succ]
      refine Reg.takeS 9 (v := ?_) rfl (by kernel_rfl) (fun _ _ _ h => h) rfl ?_ hSw ?_
      rotate_left
      · intro W hW
        go_simp
        try with_reducible rfl
      try simp only [Act.put, List.setIfInBounds_toArray, List.set_cons_zero, List.set_cons_succ]
      refine Reg.takeS 10 (v := ?_) rfl (by kernel_rfl) (fun _ _ _ h => h) rfl ?_ hSw ?_
      rotate_left
      · intro W hW
        go_simp
        try with_reducible rfl
      try simp only [Act.put, List.setIfInBounds_toArray, List.set_cons_zero, List.set_cons_succ]
      refine Reg.takeS 11 (v := ?_) rfl (by kernel_rfl) (fun _ _ _ h => h) rfl ?_ hSw ?_
      rotate_left
      · intro W hW
        have qq := (KQ.out W (F1.out.trans (hW.mono F1.out.size))).2.2.2.2
        go_simp
        try with_reducible rfl
      try simp only [Act.put, List.setIfInBounds_toArray, List.set_cons_zero, List.set_cons_succ]
      refine do2S 6 14 rfl rfl (by kernel_rfl) rfl rfl (fun K hK => ?_) (fun K hK => ?_)
      · go_simp
        refine (digestR_any p x n _ HO.out).mono ?_
        rintro e v3 ⟨rfl, b3⟩
        have F3 := Lib.hid (hSw.trans b3)
        clear hSw
        have hSw := F3.out
        refine hK.out _ _ hSw ?_
        clear hK K b3
        try simp only [Act.put, List.setIfInBounds_toArray, List.set_cons_zero, List.set_cons_succ]
        refine Reg.takeS 12 (v := ?_) rfl (by kernel_rfl) (fun _ _ _ h => h) rfl ?_ hSw ?_
        rotate_left
        · intro W hW
          go_simp
          try with_reducible rfl
        try simp only [Act.put, List.setIfInBounds_toArray, List.set_cons_zero, List.set_cons_succ]
        refine Reg.takeS 13 (v := ?_) rfl (by kernel_rfl) (fun _ _ _ h => h) rfl ?_ hSw ?_
        rotate_left
        · intro W hW
          go_simp
          try with_reducible rfl
        try simp only [Act.put, List.setIfInBounds_toArray, List.set_cons_zero, List.set_cons_succ]
        refine Reg.doS 14 rfl (by kernel_rfl) rfl (fun K hK => ?_)
        go_simp
        have F : Below W1.heap.size W1 (v3.alloc (.cells #[.int .i64 0, .int .u64 0] 39)) := hSw.alloc hSw.size _
        refine hK.out _ _ F ?_
        clear hK K F hSw
        try simp only [Act.put, List.setIfInBounds_toArray, List.set_cons_zero, List.set_cons_succ]
        refine Reg.doS 15 rfl (by kernel_rfl) rfl (fun K hK => ?_)
        go_simp
        have kz : Blk (v3.alloc (.cells #[.int .i64 0, .int .u64 0] 39)) v3.heap.size 39 #[.int .i64 0, .int .u64 0] := Blk.new v3 _ _
        have st := store_tx (cs := #[.int .i64 p, .int .u64 (bits .xor .u64 (digI p x n) t)]) kz rfl rfl rfl
        obtain ⟨W2, hW2⟩ : ∃ W2, W2 = World.setRow (v3.alloc (.cells #[.int .i64 0, .int .u64 0] 39)) v3.heap.size #[.int .i64 p, .int .u64 (bits .xor .u64 (digI p x n) t)] := ⟨_, rfl⟩
        have F : Below W1.heap.size W1 W2 := by rw [hW2]; exact bel_setRow (F3.out.alloc F3.out.size _) F3.out.size _
        have KX : Hid (Blk W2 v3.heap.size 39 #[.int .i64 p, .int .u64 (bits .xor .u64 (digI p x n) t)]) := Lib.hid (by rw [hW2]; exact Blk_setRow kz _)
        rw [← hW2] at st
        have F := Lib.hid F
        clear hW2 kz
        go_simp
        clear st
        have F := F.out
        have HB2 := Lib.hid (HB1.out.below F)
        have KR2 := Lib.hid (KR.out.below F KR.out.lt)
        have NX := Lib.hid (HB1.out.far F3.out.size)
        have F2 := Lib.hid (F1.out.trans (F.mono F1.out.size))
        refine hK.out _ _ F ?_
        clear hK K F
        try simp only [Act.put]
        refine Reg.done (by kernel_rfl) ?_
        have qk : W2.cell? ⟨b, off + i * 5, none⟩ = some (.int .i64 kd) := (KQ.out W2 F2.out).1
        clear KQ F1 F2 F3 HB HB1 KR
        generalize wr.heap.size = g12 at *
        generalize v3.heap.size = g13 at *
        clear hlt
        by_cases k0 : kd = 0
        · have t0 : (kd == 0) = true := by simp [k0]
          clear k0
          have ld : (loadRow 39 (.pointer (some ⟨g13, 0, none⟩))).run Try.prog W2 = .ok (.agg #[.int .i64 p, .int .u64 (bits .xor .u64 (digI p x n) t)]) W2 := load_tx KX.out rfl
          go_wp2_with fail
          clear ld
          refine (commit_any g d v s p (bits .xor .u64 (digI p x n) t) _ HB2.out.a HP.out (xor_is_u64 _ _) (short (by have := HF.out.c; have := HI.out; omega))).mono ?_
          rintro e v4 ⟨rfl, c4, f4⟩
          have HB4 := Lib.hid (HB2.out.stepA c4 f4)
          have KX4 := Lib.hid (KX.out.frm f4 NX.out)
          clear c4 f4 HB2 KX KR2
          have ld : (loadRow 39 (.pointer (some ⟨g13, 0, none⟩))).run Try.prog v4 = .ok (.agg #[.int .i64 p, .int .u64 (bits .xor .u64 (digI p x n) t)]) v4 := load_tx KX4.out rfl
          go_wp2_with fail
          clear ld
          refine (commitR_any g2 vc vr s ts p (bits .xor .u64 (digI p x n) t) _ HB4.out.b (by have := HF.out.c; have := HI.out; omega)).mono ?_
          rintro e v5 ⟨rfl, vc5, vr5, ts5, r5, f5, o5⟩
          have HB5 := Lib.hid (HB4.out.stepB r5 f5 o5)
          clear r5 f5 o5 HB4 KX4
          go_wp2_with fail
          have FN : Hid (Fine (com s p (bits .xor .u64 (digI p x n) t)) (i + 1)) := Lib.hid (com_fine HF.out (xor_is_u64 _ _) (by have := HI.out; omega))
          generalize com s p (bits .xor .u64 (digI p x n) t) = s9 at *
          refine (seed_any g d v s9 _ HB5.out.a FN.out.ok).mono ?_
          rintro e u1 ⟨rfl, b1⟩
          have D1 := Lib.hid (HB5.out.below b1)
          clear b1
          go_wp2_with fail
          refine (seedR_any g2 _ _ s9 _ _ D1.out.b FN.out.ok).mono ?_
          rintro e u2 ⟨rfl, b2⟩
          have D2 := Lib.hid (D1.out.below b2)
          clear b2 D1
          go_wp2_with fail
          refine (missing_any g d v s9 _ D2.out.a FN.out.ok).mono ?_
          rintro e u3 ⟨m1, rfl, mo, mk, b3⟩
          have D3 := Lib.hid (D2.out.below b3)
          have M3 := Lib.hid mo
          clear b3 D2 mo mk
          go_wp2_with fail
          refine (missingR_any g2 _ _ s9 _ _ D3.out.b FN.out.ok).mono ?_
          rintro e u4 ⟨m2, rfl, mo, mk, b4⟩
          have D4 := Lib.hid (D3.out.below b4)
          have M4 := Lib.hid (own_frm M3.out (Frm.of_below (F := fun _ => False) b4 (fun i hi hg => by omega)) (fun _ _ g => g))
          have N4 := Lib.hid mo
          clear b4 D3 mo mk M3
          go_wp2_with fail
          refine (ints_any (missing s9) m1 m2 _ M4.out N4.out (missing_short _ FN.out.ok)).mono ?_
          rintro e u5 ⟨rfl, b5⟩
          have D5 := Lib.hid (D4.out.below b5)
          clear b5 D4 M4 N4
          go_wp2_with fail
          refine (locked_any g d v s9 _ D5.out.a).mono ?_
          rintro e w' ⟨rfl, rfl⟩
          go_wp2_with fail
          refine (lockedR_any g2 _ _ s9 _ _ D5.out.b).mono ?_
          rintro e w' ⟨rfl, rfl⟩
          go_wp2_with fail
          go_roundw
          case rel => exact ⟨i + 1, _, _, _, _, s9, by omega, by go_num, rfl, rfl, D5, FN⟩
          case measure => simp [intOf]; omega
        · by_cases k1 : kd = 1
          · have t0 : (kd == 0) = false := by simp [k0]
            have t1 : (kd == 1) = true := by simp [k1]
            clear k0 k1 KX KR2
            go_wp2_with fail
            refine (lock_any g d v s _ HB2.out.a).mono ?_
            rintro e v4 ⟨rfl, c4, f4⟩
            have HB4 := Lib.hid (HB2.out.stepA c4 f4)
            clear c4 f4 HB2
            go_wp2_with fail
            refine (lockR_any g2 vc vr s ts _ HB4.out.b).mono ?_
            rintro e v5 ⟨rfl, vc5, vr5, ts5, r5, f5, o5⟩
            have HB5 := Lib.hid (HB4.out.stepB r5 f5 o5)
            clear r5 f5 o5 HB4
            go_wp2_with fail
            have FN : Hid (Fine (lock s) (i + 1)) := Lib.hid (lock_fine HF.out)
            generalize lock s = s9 at *
            refine (seed_any g d v s9 _ HB5.out.a FN.out.ok).mono ?_
            rintro e u1 ⟨rfl, b1⟩
            have D1 := Lib.hid (HB5.out.below b1)
            clear b1
            go_wp2_with fail
            refine (seedR_any g2 _ _ s9 _ _ D1.out.b FN.out.ok).mono ?_
            rintro e u2 ⟨rfl, b2⟩
            have D2 := Lib.hid (D1.out.below b2)
            clear b2 D1
            go_wp2_with fail
            refine (missing_any g d v s9 _ D2.out.a FN.out.ok).mono ?_
            rintro e u3 ⟨m1, rfl, mo, mk, b3⟩
            have D3 := Lib.hid (D2.out.below b3)
            have M3 := Lib.hid mo
            clear b3 D2 mo mk
            go_wp2_with fail
            refine (missingR_any g2 _ _ s9 _ _ D3.out.b FN.out.ok).mono ?_
            rintro e u4 ⟨m2, rfl, mo, mk, b4⟩
            have D4 := Lib.hid (D3.out.below b4)
            have M4 := Lib.hid (own_frm M3.out (Frm.of_below (F := fun _ => False) b4 (fun i hi hg => by omega)) (fun _ _ g => g))
            have N4 := Lib.hid mo
            clear b4 D3 mo mk M3
            go_wp2_with fail
            refine (ints_any (missing s9) m1 m2 _ M4.out N4.out (missing_short _ FN.out.ok)).mono ?_
            rintro e u5 ⟨rfl, b5⟩
            have D5 := Lib.hid (D4.out.below b5)
            clear b5 D4 M4 N4
            go_wp2_with fail
            refine (locked_any g d v s9 _ D5.out.a).mono ?_
            rintro e w' ⟨rfl, rfl⟩
            go_wp2_with fail
            refine (lockedR_any g2 _ _ s9 _ _ D5.out.b).mono ?_
            rintro e w' ⟨rfl, rfl⟩
            go_wp2_with fail
            go_roundw
            case rel => exact ⟨i + 1, _, _, _, _, s9, by omega, by go_num, rfl, rfl, D5, FN⟩
            case measure => simp [intOf]; omega
          · by_cases k2 : kd = 2
            · have t0 : (kd == 0) = false := by simp [k0]
              have t1 : (kd == 1) = false := by simp [k1]
              have t2 : (kd == 2) = true := by simp [k2]
              clear k0 k1 k2 KX
              have ld : (loadRow 24 (.pointer (some ⟨g12, 0, none⟩))).run Try.prog W2 = .ok (.agg #[.int .i64 p, .int .u64 x, .int .u64 n]) W2 := load_rv KR2.out rfl
              go_wp2_with fail
              clear ld
              refine (reveal_any g d v s p x n _ HB2.out.a HP.out HO.out HV.out (short (by have := HF.out.r; have := HI.out; omega))).mono ?_
              rintro e v4 ⟨rfl, c4, f4⟩
              have HB4 := Lib.hid (HB2.out.stepA c4 f4)
              have KR4 := Lib.hid (KR2.out.frm f4 NR.out)
              clear c4 f4 HB2 KR2
              have ld : (loadRow 24 (.pointer (some ⟨g12, 0, none⟩))).run Try.prog v4 = .ok (.agg #[.int .i64 p, .int .u64 x, .int .u64 n]) v4 := load_rv KR4.out rfl
              go_wp2_with fail
              clear ld
              refine (revealR_any g2 vc vr s ts p x n _ HB4.out.b (by have := HF.out.c; have := HI.out; omega) (by have := HF.out.r; have := HI.out; omega) HO.out).mono ?_
              rintro e v5 ⟨rfl, vc5, vr5, ts5, r5, f5, o5⟩
              have HB5 := Lib.hid (HB4.out.stepB r5 f5 o5)
              clear r5 f5 o5 HB4 KR4
              go_wp2_with fail
              have FN : Hid (Fine (rev s p x n) (i + 1)) := Lib.hid (rev_fine HF.out HV.out (by have := HI.out; omega))
              generalize rev s p x n = s9 at *
              refine (seed_any g d v s9 _ HB5.out.a FN.out.ok).mono ?_
              rintro e u1 ⟨rfl, b1⟩
              have D1 := Lib.hid (HB5.out.below b1)
              clear b1
              go_wp2_with fail
              refine (seedR_any g2 _ _ s9 _ _ D1.out.b FN.out.ok).mono ?_
              rintro e u2 ⟨rfl, b2⟩
              have D2 := Lib.hid (D1.out.below b2)
              clear b2 D1
              go_wp2_with fail
              refine (missing_any g d v s9 _ D2.out.a FN.out.ok).mono ?_
              rintro e u3 ⟨m1, rfl, mo, mk, b3⟩
              have D3 := Lib.hid (D2.out.below b3)
              have M3 := Lib.hid mo
              clear b3 D2 mo mk
              go_wp2_with fail
              refine (missingR_any g2 _ _ s9 _ _ D3.out.b FN.out.ok).mono ?_
              rintro e u4 ⟨m2, rfl, mo, mk, b4⟩
              have D4 := Lib.hid (D3.out.below b4)
              have M4 := Lib.hid (own_frm M3.out (Frm.of_below (F := fun _ => False) b4 (fun i hi hg => by omega)) (fun _ _ g => g))
              have N4 := Lib.hid mo
              clear b4 D3 mo mk M3
              go_wp2_with fail
              refine (ints_any (missing s9) m1 m2 _ M4.out N4.out (missing_short _ FN.out.ok)).mono ?_
              rintro e u5 ⟨rfl, b5⟩
              have D5 := Lib.hid (D4.out.below b5)
              clear b5 D4 M4 N4
              go_wp2_with fail
              refine (locked_any g d v s9 _ D5.out.a).mono ?_
              rintro e w' ⟨rfl, rfl⟩
              go_wp2_with fail
              refine (lockedR_any g2 _ _ s9 _ _ D5.out.b).mono ?_
              rintro e w' ⟨rfl, rfl⟩
              go_wp2_with fail
              go_roundw
              case rel => exact ⟨i + 1, _, _, _, _, s9, by omega, by go_num, rfl, rfl, D5, FN⟩
              case measure => simp [intOf]; omega
            · have t0 : (kd == 0) = false := by simp [k0]
              have t1 : (kd == 1) = false := by simp [k1]
              have t2 : (kd == 2) = false := by simp [k2]
              clear k0 k1 k2 KX KR2
              go_wp2_with fail
              have FN : Hid (Fine s (i + 1)) := Lib.hid (HF.out.more)
              refine (seed_any g d v s _ HB2.out.a FN.out.ok).mono ?_
              rintro e u1 ⟨rfl, b1⟩
              have D1 := Lib.hid (HB2.out.below b1)
              clear b1
              go_wp2_with fail
              refine (seedR_any g2 _ _ s _ _ D1.out.b FN.out.ok).mono ?_
              rintro e u2 ⟨rfl, b2⟩
              have D2 := Lib.hid (D1.out.below b2)
              clear b2 D1
              go_wp2_with fail
              refine (missing_any g d v s _ D2.out.a FN.out.ok).mono ?_
              rintro e u3 ⟨m1, rfl, mo, mk, b3⟩
              have D3 := Lib.hid (D2.out.below b3)
              have M3 := Lib.hid mo
              clear b3 D2 mo mk
              go_wp2_with fail
              refine (missingR_any g2 _ _ s _ _ D3.out.b FN.out.ok).mono ?_
              rintro e u4 ⟨m2, rfl, mo, mk, b4⟩
              have D4 := Lib.hid (D3.out.below b4)
              have M4 := Lib.hid (own_frm M3.out (Frm.of_below (F := fun _ => False) b4 (fun i hi hg => by omega)) (fun _ _ g => g))
              have N4 := Lib.hid mo
              clear b4 D3 mo mk M3
              go_wp2_with fail
              refine (ints_any (missing s) m1 m2 _ M4.out N4.out (missing_short _ FN.out.ok)).mono ?_
              rintro e u5 ⟨rfl, b5⟩
              have D5 := Lib.hid (D4.out.below b5)
              clear b5 D4 M4 N4
              go_wp2_with fail
              refine (locked_any g d v s _ D5.out.a).mono ?_
              rintro e w' ⟨rfl, rfl⟩
              go_wp2_with fail
              refine (lockedR_any g2 _ _ s _ _ D5.out.b).mono ?_
              rintro e w' ⟨rfl, rfl⟩
              go_wp2_with fail
              go_roundw
              case rel => exact ⟨i + 1, _, _, _, _, s, by omega, by go_num, rfl, rfl, D5, FN⟩
              case measure => simp [intOf]; omega
      · go_simp
        clear hSw
        have F : Below W1.heap.size W1 ((W1.alloc (.cells #[.int .i64 0, .int .u64 0] 39)).drew) := (Below.refl _ W1).alloc (Nat.le_refl _) _ |>.drew
        have kz0 : Hid (Blk ((W1.alloc (.cells #[.int .i64 0, .int .u64 0] 39)).drew) W1.heap.size 39 #[.int .i64 0, .int .u64 0]) := Lib.hid (Blk.new W1 _ _)
        have FA := Lib.hid F
        refine hK.out _ _ F ?_
        clear hK K F
        generalize (W1.alloc (.cells #[.int .i64 0, .int .u64 0] 39)).drew = WA at *
        have hSw := FA.out
        try simp only [Act.put, List.setIfInBounds_toArray, List.set_cons_zero, List.set_cons_succ]
        refine Reg.doS 6 rfl (by kernel_rfl) rfl (fun K hK => ?_)
        go_simp
        refine (digestR_any p x n _ HO.out).mono ?_
        rintro e v3 ⟨rfl, b3⟩
        have F3 := Lib.hid (FA.out.trans (b3.mono FA.out.size))
        have kz1 := Lib.hid (kz0.out.below b3 kz0.out.lt)
        clear hSw kz0
        have hSw := F3.out
        refine hK.out _ _ hSw ?_
        clear hK K b3 FA
        try simp only [Act.put, List.setIfInBounds_toArray, List.set_cons_zero, List.set_cons_succ]
        refine Reg.takeS 12 (v := ?_) rfl (by kernel_rfl) (fun _ _ _ h => h) rfl ?_ hSw ?_
        rotate_left
        · intro W hW
          go_simp
          try with_reducible rfl
        try simp only [Act.put, List.setIfInBounds_toArray, List.set_cons_zero, List.set_cons_succ]
        refine Reg.takeS 13 (v := ?_) rfl (by kernel_rfl) (fun _ _ _ h => h) rfl ?_ hSw ?_
        rotate_left
        · intro W hW
          go_simp
          try with_reducible rfl
        try simp only [Act.put, List.setIfInBounds_toArray, List.set_cons_zero, List.set_cons_succ]
        refine Reg.doS 15 rfl (by kernel_rfl) rfl (fun K hK => ?_)
        go_simp
        have st := store_tx (cs := #[.int .i64 p, .int .u64 (bits .xor .u64 (digI p x n) t)]) kz1.out rfl rfl rfl
        obtain ⟨W2, hW2⟩ : ∃ W2, W2 = World.setRow v3 W1.heap.size #[.int .i64 p, .int .u64 (bits .xor .u64 (digI p x n) t)] := ⟨_, rfl⟩
        have F : Hid (Below W1.heap.size W1 W2) := Lib.hid (by rw [hW2]; exact bel_setRow F3.out (Nat.le_refl _) _)
        have KX : Hid (Blk W2 W1.heap.size 39 #[.int .i64 p, .int .u64 (bits .xor .u64 (digI p x n) t)]) := Lib.hid (by rw [hW2]; exact Blk_setRow kz1.out _)
        rw [← hW2] at st
        clear hW2 hSw
        go_simp
        clear st
        have HB2 := Lib.hid (HB1.out.below F.out)
        have KR2 := Lib.hid (KR.out.below F.out KR.out.lt)
        have NX := Lib.hid (HB1.out.far (Nat.le_refl W1.heap.size))
        have F2 := Lib.hid (F1.out.trans (F.out.mono F1.out.size))
        refine hK.out _ _ F.out ?_
        clear hK K F kz1
        try simp only [Act.put]
        refine Reg.done (by kernel_rfl) ?_
        have qk : W2.cell? ⟨b, off + i * 5, none⟩ = some (.int .i64 kd) := (KQ.out W2 F2.out).1
        clear KQ F1 F2 F3 HB HB1 KR
        generalize wr.heap.size = g12 at *
        generalize W1.heap.size = g13 at *
        clear hlt
        by_cases k0 : kd = 0
        · have t0 : (kd == 0) = true := by simp [k0]
          clear k0
          have ld : (loadRow 39 (.pointer (some ⟨g13, 0, none⟩))).run Try.prog W2 = .ok (.agg #[.int .i64 p, .int .u64 (bits .xor .u64 (digI p x n) t)]) W2 := load_tx KX.out rfl
          go_wp2_with fail
          clear ld
          refine (commit_any g d v s p (bits .xor .u64 (digI p x n) t) _ HB2.out.a HP.out (xor_is_u64 _ _) (short (by have := HF.out.c; have := HI.out; omega))).mono ?_
          rintro e v4 ⟨rfl, c4, f4⟩
          have HB4 := Lib.hid (HB2.out.stepA c4 f4)
          have KX4 := Lib.hid (KX.out.frm f4 NX.out)
          clear c4 f4 HB2 KX KR2
          have ld : (loadRow 39 (.pointer (some ⟨g13, 0, none⟩))).run Try.prog v4 = .ok (.agg #[.int .i64 p, .int .u64 (bits .xor .u64 (digI p x n) t)]) v4 := load_tx KX4.out rfl
          go_wp2_with fail
          clear ld
          refine (commitR_any g2 vc vr s ts p (bits .xor .u64 (digI p x n) t) _ HB4.out.b (by have := HF.out.c; have := HI.out; omega)).mono ?_
          rintro e v5 ⟨rfl, vc5, vr5, ts5, r5, f5, o5⟩
          have HB5 := Lib.hid (HB4.out.stepB r5 f5 o5)
          clear r5 f5 o5 HB4 KX4
          go_wp2_with fail
          have FN : Hid (Fine (com s p (bits .xor .u64 (digI p x n) t)) (i + 1)) := Lib.hid (com_fine HF.out (xor_is_u64 _ _) (by have := HI.out; omega))
          generalize com s p (bits .xor .u64 (digI p x n) t) = s9 at *
          refine (seed_any g d v s9 _ HB5.out.a FN.out.ok).mono ?_
          rintro e u1 ⟨rfl, b1⟩
          have D1 := Lib.hid (HB5.out.below b1)
          clear b1
          go_wp2_with fail
          refine (seedR_any g2 _ _ s9 _ _ D1.out.b FN.out.ok).mono ?_
          rintro e u2 ⟨rfl, b2⟩
          have D2 := Lib.hid (D1.out.below b2)
          clear b2 D1
          go_wp2_with fail
          refine (missing_any g d v s9 _ D2.out.a FN.out.ok).mono ?_
          rintro e u3 ⟨m1, rfl, mo, mk, b3⟩
          have D3 := Lib.hid (D2.out.below b3)
          have M3 := Lib.hid mo
          clear b3 D2 mo mk
          go_wp2_with fail
          refine (missingR_any g2 _ _ s9 _ _ D3.out.b FN.out.ok).mono ?_
          rintro e u4 ⟨m2, rfl, mo, mk, b4⟩
          have D4 := Lib.hid (D3.out.below b4)
          have M4 := Lib.hid (own_frm M3.out (Frm.of_below (F := fun _ => False) b4 (fun i hi hg => by omega)) (fun _ _ g => g))
          have N4 := Lib.hid mo
          clear b4 D3 mo mk M3
          go_wp2_with fail
          refine (ints_any (missing s9) m1 m2 _ M4.out N4.out (missing_short _ FN.out.ok)).mono ?_
          rintro e u5 ⟨rfl, b5⟩
          have D5 := Lib.hid (D4.out.below b5)
          clear b5 D4 M4 N4
          go_wp2_with fail
          refine (locked_any g d v s9 _ D5.out.a).mono ?_
          rintro e w' ⟨rfl, rfl⟩
          go_wp2_with fail
          refine (lockedR_any g2 _ _ s9 _ _ D5.out.b).mono ?_
          rintro e w' ⟨rfl, rfl⟩
          go_wp2_with fail
          go_roundw
          case rel => exact ⟨i + 1, _, _, _, _, s9, by omega, by go_num, rfl, rfl, D5, FN⟩
          case measure => simp [intOf]; omega
        · by_cases k1 : kd = 1
          · have t0 : (kd == 0) = false := by simp [k0]
            have t1 : (kd == 1) = true := by simp [k1]
            clear k0 k1 KX KR2
            go_wp2_with fail
            refine (lock_any g d v s _ HB2.out.a).mono ?_
            rintro e v4 ⟨rfl, c4, f4⟩
            have HB4 := Lib.hid (HB2.out.stepA c4 f4)
            clear c4 f4 HB2
            go_wp2_with fail
            refine (lockR_any g2 vc vr s ts _ HB4.out.b).mono ?_
            rintro e v5 ⟨rfl, vc5, vr5, ts5, r5, f5, o5⟩
            have HB5 := Lib.hid (HB4.out.stepB r5 f5 o5)
            clear r5 f5 o5 HB4
            go_wp2_with fail
            have FN : Hid (Fine (lock s) (i + 1)) := Lib.hid (lock_fine HF.out)
            generalize lock s = s9 at *
            refine (seed_any g d v s9 _ HB5.out.a FN.out.ok).mono ?_
            rintro e u1 ⟨rfl, b1⟩
            have D1 := Lib.hid (HB5.out.below b1)
            clear b1
            go_wp2_with fail
            refine (seedR_any g2 _ _ s9 _ _ D1.out.b FN.out.ok).mono ?_
            rintro e u2 ⟨rfl, b2⟩
            have D2 := Lib.hid (D1.out.below b2)
            clear b2 D1
            go_wp2_with fail
            refine (missing_any g d v s9 _ D2.out.a FN.out.ok).mono ?_
            rintro e u3 ⟨m1, rfl, mo, mk, b3⟩
            have D3 := Lib.hid (D2.out.below b3)
            have M3 := Lib.hid mo
            clear b3 D2 mo mk
            go_wp2_with fail
            refine (missingR_any g2 _ _ s9 _ _ D3.out.b FN.out.ok).mono ?_
            rintro e u4 ⟨m2, rfl, mo, mk, b4⟩
            have D4 := Lib.hid (D3.out.below b4)
            have M4 := Lib.hid (own_frm M3.out (Frm.of_below (F := fun _ => False) b4 (fun i hi hg => by omega)) (fun _ _ g => g))
            have N4 := Lib.hid mo
            clear b4 D3 mo mk M3
            go_wp2_with fail
            refine (ints_any (missing s9) m1 m2 _ M4.out N4.out (missing_short _ FN.out.ok)).mono ?_
            rintro e u5 ⟨rfl, b5⟩
            have D5 := Lib.hid (D4.out.below b5)
            clear b5 D4 M4 N4
            go_wp2_with fail
            refine (locked_any g d v s9 _ D5.out.a).mono ?_
            rintro e w' ⟨rfl, rfl⟩
            go_wp2_with fail
            refine (lockedR_any g2 _ _ s9 _ _ D5.out.b).mono ?_
            rintro e w' ⟨rfl, rfl⟩
            go_wp2_with fail
            go_roundw
            case rel => exact ⟨i + 1, _, _, _, _, s9, by omega, by go_num, rfl, rfl, D5, FN⟩
            case measure => simp [intOf]; omega
          · by_cases k2 : kd = 2
            · have t0 : (kd == 0) = false := by simp [k0]
              have t1 : (kd == 1) = false := by simp [k1]
              have t2 : (kd == 2) = true := by simp [k2]
              clear k0 k1 k2 KX
              have ld : (loadRow 24 (.pointer (some ⟨g12, 0, none⟩))).run Try.prog W2 = .ok (.agg #[.int .i64 p, .int .u64 x, .int .u64 n]) W2 := load_rv KR2.out rfl
              go_wp2_with fail
              clear ld
              refine (reveal_any g d v s p x n _ HB2.out.a HP.out HO.out HV.out (short (by have := HF.out.r; have := HI.out; omega))).mono ?_
              rintro e v4 ⟨rfl, c4, f4⟩
              have HB4 := Lib.hid (HB2.out.stepA c4 f4)
              have KR4 := Lib.hid (KR2.out.frm f4 NR.out)
              clear c4 f4 HB2 KR2
              have ld : (loadRow 24 (.pointer (some ⟨g12, 0, none⟩))).run Try.prog v4 = .ok (.agg #[.int .i64 p, .int .u64 x, .int .u64 n]) v4 := load_rv KR4.out rfl
              go_wp2_with fail
              clear ld
              refine (revealR_any g2 vc vr s ts p x n _ HB4.out.b (by have := HF.out.c; have := HI.out; omega) (by have := HF.out.r; have := HI.out; omega) HO.out).mono ?_
              rintro e v5 ⟨rfl, vc5, vr5, ts5, r5, f5, o5⟩
              have HB5 := Lib.hid (HB4.out.stepB r5 f5 o5)
              clear r5 f5 o5 HB4 KR4
              go_wp2_with fail
              have FN : Hid (Fine (rev s p x n) (i + 1)) := Lib.hid (rev_fine HF.out HV.out (by have := HI.out; omega))
              generalize rev s p x n = s9 at *
              refine (seed_any g d v s9 _ HB5.out.a FN.out.ok).mono ?_
              rintro e u1 ⟨rfl, b1⟩
              have D1 := Lib.hid (HB5.out.below b1)
              clear b1
              go_wp2_with fail
              refine (seedR_any g2 _ _ s9 _ _ D1.out.b FN.out.ok).mono ?_
              rintro e u2 ⟨rfl, b2⟩
              have D2 := Lib.hid (D1.out.below b2)
              clear b2 D1
              go_wp2_with fail
              refine (missing_any g d v s9 _ D2.out.a FN.out.ok).mono ?_
              rintro e u3 ⟨m1, rfl, mo, mk, b3⟩
              have D3 := Lib.hid (D2.out.below b3)
              have M3 := Lib.hid mo
              clear b3 D2 mo mk
              go_wp2_with fail
              refine (missingR_any g2 _ _ s9 _ _ D3.out.b FN.out.ok).mono ?_
              rintro e u4 ⟨m2, rfl, mo, mk, b4⟩
              have D4 := Lib.hid (D3.out.below b4)
              have M4 := Lib.hid (own_frm M3.out (Frm.of_below (F := fun _ => False) b4 (fun i hi hg => by omega)) (fun _ _ g => g))
              have N4 := Lib.hid mo
              clear b4 D3 mo mk M3
              go_wp2_with fail
              refine (ints_any (missing s9) m1 m2 _ M4.out N4.out (missing_short _ FN.out.ok)).mono ?_
              rintro e u5 ⟨rfl, b5⟩
              have D5 := Lib.hid (D4.out.below b5)
              clear b5 D4 M4 N4
              go_wp2_with fail
              refine (locked_any g d v s9 _ D5.out.a).mono ?_
              rintro e w' ⟨rfl, rfl⟩
              go_wp2_with fail
              refine (lockedR_any g2 _ _ s9 _ _ D5.out.b).mono ?_
              rintro e w' ⟨rfl, rfl⟩
              go_wp2_with fail
              go_roundw
              case rel => exact ⟨i + 1, _, _, _, _, s9, by omega, by go_num, rfl, rfl, D5, FN⟩
              case measure => simp [intOf]; omega
            · have t0 : (kd == 0) = false := by simp [k0]
              have t1 : (kd == 1) = false := by simp [k1]
              have t2 : (kd == 2) = false := by simp [k2]
              clear k0 k1 k2 KX KR2
              go_wp2_with fail
              have FN : Hid (Fine s (i + 1)) := Lib.hid (HF.out.more)
              refine (seed_any g d v s _ HB2.out.a FN.out.ok).mono ?_
              rintro e u1 ⟨rfl, b1⟩
              have D1 := Lib.hid (HB2.out.below b1)
              clear b1
              go_wp2_with fail
              refine (seedR_any g2 _ _ s _ _ D1.out.b FN.out.ok).mono ?_
              rintro e u2 ⟨rfl, b2⟩
              have D2 := Lib.hid (D1.out.below b2)
              clear b2 D1
              go_wp2_with fail
              refine (missing_any g d v s _ D2.out.a FN.out.ok).mono ?_
              rintro e u3 ⟨m1, rfl, mo, mk, b3⟩
              have D3 := Lib.hid (D2.out.below b3)
              have M3 := Lib.hid mo
              clear b3 D2 mo mk
              go_wp2_with fail
              refine (missingR_any g2 _ _ s _ _ D3.out.b FN.out.ok).mono ?_
              rintro e u4 ⟨m2, rfl, mo, mk, b4⟩
              have D4 := Lib.hid (D3.out.below b4)
              have M4 := Lib.hid (own_frm M3.out (Frm.of_below (F := fun _ => False) b4 (fun i hi hg => by omega)) (fun _ _ g => g))
              have N4 := Lib.hid mo
              clear b4 D3 mo mk M3
              go_wp2_with fail
              refine (ints_any (missing s) m1 m2 _ M4.out N4.out (missing_short _ FN.out.ok)).mono ?_
              rintro e u5 ⟨rfl, b5⟩
              have D5 := Lib.hid (D4.out.below b5)
              clear b5 D4 M4 N4
              go_wp2_with fail
              refine (locked_any g d v s _ D5.out.a).mono ?_
              rintro e w' ⟨rfl, rfl⟩
              go_wp2_with fail
              refine (lockedR_any g2 _ _ s _ _ D5.out.b).mono ?_
              rintro e w' ⟨rfl, rfl⟩
              go_wp2_with fail
              go_roundw
              case rel => exact ⟨i + 1, _, _, _, _, s, by omega, by go_num, rfl, rfl, D5, FN⟩
              case measure => simp [intOf]; omega
    · obtain rfl : i = m := by omega
      have B9 := Lib.hid HB.out.old
      go_wp2_with fail
      refine (awake27 _).mono ?_
      rintro e vz ⟨rfl, bz⟩
      have BZ := Lib.hid (B9.out.trans (bz.mono B9.out.size))
      clear bz
      go_wp2_with fail
      go_ret
      exact ⟨rfl, BZ.out⟩
set_option maxRecDepth 100000 in
set_option maxHeartbeats 8000000 in
theorem does_walk (a q : Int) (xs : List Do) (A : Option Addr) (m c : Nat) (w : World) (hn : xs.length = m) (h : DoSl w A xs) :
    Calls Try.prog 4 #[.int .i64 a, .int .i64 q, .slice A m c] w fun e w' => e = .returned (.bool true) ∧ Below w.heap.size w w' := by
  cases ho : newOk a q with
  | false =>
    have HO := Lib.hid ho
    clear ho hn h
    go_enter Try.func4, Try.ntmps4
    go_wp2_with fail
    refine (new_no a q _ HO.out).mono ?_
    rintro e w' ⟨rfl, rfl⟩
    go_wp2_with fail
    refine (newR_no a q _ HO.out).mono ?_
    rintro e w' ⟨rfl, rfl⟩
    go_wp2_with fail
    refine (awake27 _).mono ?_
    rintro e vz ⟨rfl, bz⟩
    go_wp2_with fail
    go_ret
    exact ⟨rfl, bz⟩
  | true =>
    obtain ⟨h1, h2, h3, h4⟩ := (newOk_iff a q).1 ho
    by_cases h60 : m ≤ 60
    · exact does_some a q xs A m c w hn h60 h h1 h2 h3 h4
    · have h60i : (60 : Int) < (m : Int) := by omega
      have H1 := Lib.hid h1
      have H2 := Lib.hid h2
      have H3 := Lib.hid h3
      have H4 := Lib.hid h4
      clear ho hn h h60 h1 h2 h3 h4
      go_enter Try.func4, Try.ntmps4
      go_wp2_with fail
      refine (new_to _ H1.out H2.out H3.out H4.out).mono ?_
      rintro e v0 ⟨g, d, v, rfl, c0, o0, b0⟩
      have B0 := Lib.hid b0
      clear c0 o0 b0
      go_wp2_with fail
      refine (newR_yes a q _ H1.out H2.out H3.out H4.out).mono ?_
      rintro e v1 ⟨g2, rfl, c1, o1, b1⟩
      have B1 := Lib.hid (B0.out.trans (b1.mono B0.out.size))
      clear c1 o1 b1 B0
      go_wp2_with fail
      refine (awake27 _).mono ?_
      rintro e vz ⟨rfl, bz⟩
      have BZ := Lib.hid (B1.out.trans (bz.mono B1.out.size))
      clear bz
      go_wp2_with fail
      go_ret
      exact ⟨rfl, BZ.out⟩
end Go.Proofs.Ytdgekhbmcmojdaa.Cm
