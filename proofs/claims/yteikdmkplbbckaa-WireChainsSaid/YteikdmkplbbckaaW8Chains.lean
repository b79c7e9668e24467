/-
  The walk of WireChains: frames are read one after the other. Conditions: the byte strings lie in memory.
-/
import Derived.Test.YteikdmkplbbckaaW8Awake
import Derived.Test.YteikdmkplbbckaaConv
import Derived.Test.YteikdmkplbbckaaReg
namespace Go.Proofs.Yteikdmkplbbckaa.Wr
open Go.RowKit Go.Proofs.Yteikdmkplbbckaa.Mem Go.Proofs.Yteikdmkplbbckaa.Eqs
attribute [local go_sem ↓] exec_conv

/-- byte strings in memory. -/
def BsSl (w : World) (A : Option Addr) (xs : List (List UInt8)) : Prop :=
  ∀ k x, xs[k]? = some x → ∃ b off A2 c2, A = some ⟨b, off, none⟩ ∧ b < w.heap.size ∧ w.cell? ⟨b, off + k, none⟩ = some (.slice A2 x.length c2) ∧ Sl w 1 A2 x.length (byts x) ∧ x.length ≤ 9223372036854775807
theorem BsSl.below {w w' : World} {A : Option Addr} {xs : List (List UInt8)} (h : BsSl w A xs) (hb : Below w.heap.size w w') : BsSl w' A xs := by
  intro k x hx
  obtain ⟨b, off, A2, c2, e, hlt, h1, h2, h3⟩ := h k x hx
  exact ⟨b, off, A2, c2, e, Nat.lt_of_lt_of_le hlt hb.size, (hb.cell (p := ⟨b, _, none⟩) hlt).trans h1, h2.below hb (Nat.le_refl _), h3⟩
def chain (xs : List (List UInt8)) : List UInt8 := xs.flatMap frame
theorem chain_snoc (xs : List (List UInt8)) (k : Nat) (h : k < xs.length) : chain (xs.take (k + 1)) = chain (xs.take k) ++ frame xs[k] := by
  unfold chain
  rw [List.take_succ_eq_append_getElem h, List.flatMap_append]
  simp only [List.flatMap_cons, List.flatMap_nil, List.append_nil]
theorem chain_split (xs : List (List UInt8)) (k : Nat) (h : k < xs.length) : chain xs = chain (xs.take k) ++ (frame xs[k] ++ chain (xs.drop (k + 1))) := by
  unfold chain
  conv => lhs; rw [← List.take_append_drop k xs, List.drop_eq_getElem_cons h]
  rw [List.flatMap_append, List.flatMap_cons]
theorem frame_le {b : List UInt8} (h : b.length ≤ 5000) : (frame b).length ≤ 5018 := by
  have := uv_len64 (n := b.length) (by omega)
  rw [frame_len]
  omega
theorem chain_len (xs : List (List UInt8)) (h : ∀ x ∈ xs, x.length ≤ 5000) (k : Nat) (hk : k ≤ xs.length) : (chain (xs.take k)).length ≤ 5018 * k := by
  induction k with
  | zero => simp [chain]
  | succ k ih =>
    have hl : k < xs.length := by omega
    have h1 := frame_le (h _ (List.getElem_mem hl))
    have h2 := ih (by omega)
    rw [chain_snoc xs k hl, List.length_append]
    omega
/-- what Next says at the frame number k of a chain. -/
theorem chain_next (xs : List (List UInt8)) (k : Nat) (h : k < xs.length) (hx : xs[k].length ≤ 5000) : nres (next (chain xs) ((chain (xs.take k)).length : Int)) = (xs[k], (chain (xs.take (k + 1))).length, 0) := by
  have e := chain_split xs k h
  have hle : (chain (xs.take k)).length ≤ (chain xs).length := by rw [e, List.length_append]; omega
  rw [next_at hle]
  have h2 := nextN_frame (p := chain (xs.take k)) (b := xs[k]) (r := chain (xs.drop (k + 1))) (by omega)
  rw [← e] at h2
  rw [h2, chain_snoc xs k h, List.length_append]
  rfl
theorem chain_end (xs : List (List UInt8)) : nres (next (chain xs) ((chain xs).length : Int)) = ([], 0, 28) := by
  rw [next_at (Nat.le_refl _), nextN_end]
  rfl
/-- what the first loop has come to. -/
def ChRel (w : World) (xs : List (List UInt8)) (k : Nat) (v : Value) (wr : World) : Prop :=
  wr.ownsRow 0 5 1 v (chain (xs.take k)).length (byts (chain (xs.take k))) ∧ (∀ j, v.ownBlock = some j → w.heap.size ≤ j) ∧ Below w.heap.size w wr ∧ ∀ x ∈ xs.take k, x.length ≤ 5000
theorem row_cap {w : World} {e : TypeId} {size n c : Nat} {A : Option Addr} {xs : List Value} (h : w.ownsRow 0 e size (.slice A n c) n xs) : n ≤ c ∧ c ≤ 9223372036854775807 := by
  rcases h.2 with ⟨e1, h0⟩ | ⟨g, cap, cur, e1, _, _, h6, h7, _⟩
  · injection e1 with _ _ e3
    omega
  · injection e1 with _ _ e3
    unfold maxLen at h7
    omega
theorem below_own {w wr w1 : World} {v : Value} (hb : Below w.heap.size w wr) (hg : wr.grownBy w1 v.ownBlock) (hf : ∀ j, v.ownBlock = some j → w.heap.size ≤ j) : Below w.heap.size w w1 :=
  hb.trans ((Frm.of_grown (F := fun j => v.ownBlock = some j) hg fun i hi => hi).below hb.size fun i hi g => by have := hf i g; omega)

set_option maxRecDepth 100000 in
set_option maxHeartbeats 4000000 in
theorem chains_walk (xs : List (List UInt8)) (A : Option Addr) (n c : Nat) (w : World) (hn : xs.length = n) (hn2 : n ≤ 9223372036854775807) (hx : BsSl w A xs) :
    Calls Try.prog 8 #[.slice A n c] w fun e w' => e = .returned (.bool true) ∧ Below w.heap.size w w' := by
  obtain ⟨i0, hi0, hz0, hz1, hz2⟩ := info_parts u8_info
  have LN := Lib.hid hn
  have HX := Lib.hid hx
  clear hn hx
  by_cases h100 : n ≤ 100
  · have hni : (n : Int) ≤ 100 := by omega
    go_enter Try.func8, Try.ntmps8
    go_wp2_with fail
    go_loopw [3, 19] (fun v i wr => ∃ k : Nat, k ≤ n ∧ i = .int .i64 k ∧ Hid (ChRel w xs k v wr)) (fun _ i _ => n - (intOf i).toNat)
    case atStart => exact ⟨0, by omega, rfl, ⟨World.ownsRow_nil _ _ _ _, (fun j hj => by cases hj), Below.refl _ _, fun x hx => by simp at hx⟩⟩
    case round =>
      obtain ⟨k, hk, rfl, HR⟩ := hrel
      by_cases hlt : k < n
      · have kl : k < xs.length := by have := LN.out; omega
        obtain ⟨b, off, A2, c2, rfl, _, q0, s2, l2⟩ := HX.out.below HR.out.2.2.1 k _ (List.getElem?_eq_getElem kl)
        have hlti : (k : Int) < (n : Int) := by omega
        have h0i : (0 : Int) ≤ (k : Int) := by omega
        have HS := Lib.hid s2
        have HCS := Lib.hid (chain_snoc xs k kl)
        have HCL := Lib.hid (fun h => chain_len (xs.take k) h k (by rw [List.length_take]; omega))
        have HT : Hid (xs[k].length ≤ 5000 → ∀ x ∈ xs.take (k + 1), x.length ≤ 5000) := fun hs x hx => by
          rw [List.take_succ_eq_append_getElem kl, List.mem_append] at hx
          rcases hx with hx | hx
          · exact HR.out.2.2.2 x hx
          · rw [List.mem_singleton] at hx
            rw [hx]
            exact hs
        clear s2
        generalize xs[k] = x at *
        by_cases h5 : x.length ≤ 5000
        · have h5i : (x.length : Int) ≤ 5000 := by omega
          have HLen : Hid ((chain (xs.take k)).length + (frame x).length ≤ 1000000) := by
            have h1 := frame_le h5
            have h2 := HCL.out HR.out.2.2.2
            rw [List.take_take, Nat.min_self] at h2
            show _ ≤ _
            omega
          have HT2 := Lib.hid (HT.out h5)
          clear HCL HT
          go_wp2_with fail
          refine (frame_any x A2 _ c2 _ HS.out (by omega)).mono ?_
          rintro e w1 ⟨v1, rfl, o1, f1, b1⟩
          obtain ⟨A1, c1, rfl, s1⟩ := own_form o1
          have S1 := Lib.hid s1
          have O1 := Lib.hid (own_frm HR.out.1 (Frm.of_below (F := fun _ => False) b1 (fun i hi hg => by omega)) (fun _ _ g => g))
          have B1 := Lib.hid (HR.out.2.2.1.trans (b1.mono HR.out.2.2.1.size))
          clear o1 f1 b1 s1 q0
          go_wp2_with (at_builtin; refine wpList_append_sl _ rfl (.tmp 29) (.tmp 34) 38 rfl 5 i0 (.int .u8 0) 1 1 Try.underlying38 hi0 hz0 hz1 hz2 rfl (by decide) u3 (chain (xs.take k)).length (byts (chain (xs.take k))) rfl O1.out A1 (frame x).length c1 (byts (frame x)) rfl S1.out (byts_one _) (by have := HLen.out; unfold maxLen; omega) (by have := HLen.out; omega) ?_; intro v2 w2 hown2 hg2 hat2; have G1 := Lib.hid hown2; have G2 := Lib.hid hg2; have G3 := Lib.hid hat2; clear hown2 hg2 hat2)
          go_roundw
          case rel =>
            refine ⟨k + 1, by omega, by go_num, ⟨?_, fun j hj => ?_, below_own B1.out G2.out HR.out.2.1, HT2.out⟩⟩
            · rw [HCS.out, List.length_append, byts_append]; exact G1.out
            · rcases G3.out with e | e
              · rw [e] at hj; exact HR.out.2.1 j hj
              · rw [e] at hj
                injection hj with hj
                have := B1.out.size
                omega
          case measure => simp [intOf]; omega
        · have h5i : (5000 : Int) < (x.length : Int) := by omega
          have HB := Lib.hid HR.out.2.2.1
          go_wp2_with fail
          refine (awake8 _).mono ?_
          rintro e w1 ⟨rfl, b1⟩
          have B1 := Lib.hid (HB.out.trans (b1.mono HB.out.size))
          clear b1
          go_wp2_with fail
          go_ret
          exact ⟨rfl, B1.out⟩
      · obtain rfl : k = n := by omega
        have HT : Hid (xs.take k = xs) := List.take_of_length_le (by have := LN.out; omega)
        have h4 := HR.out
        unfold ChRel at h4
        rw [HT.out] at h4
        obtain ⟨o4, f4, b4, m4⟩ := h4
        obtain ⟨A4, c4, rfl, s4⟩ := own_form o4
        have K1 := Lib.hid s4
        have K2 := Lib.hid (row_cap o4)
        have K3 := Lib.hid b4
        have K4 := Lib.hid m4
        have K5 : Hid ((chain xs).length ≤ 1000000) := by
          have h2 := chain_len xs m4 xs.length (Nat.le_refl _)
          rw [List.take_length] at h2
          have := LN.out
          show _ ≤ _
          omega
        clear o4 f4 b4 m4 s4 HR hlt
        have KS : Hid (∀ W, Below w.heap.size w W → BsSl W A xs) := fun W hb => HX.out.below hb
        go_wp2_with fail
        go_loopw [5, 39] (fun at_ i wq => ∃ j : Nat, j ≤ k ∧ i = .int .i64 j ∧ at_ = .int .i64 ((chain (xs.take j)).length : Int) ∧ Hid (Below w.heap.size w wq ∧ Below wr.heap.size wr wq)) (fun _ i _ => k - (intOf i).toNat)
        case atStart => exact ⟨0, by omega, rfl, rfl, ⟨K3.out, Below.refl _ _⟩⟩
        case round =>
          obtain ⟨j, hj, rfl, rfl, HQ⟩ := hrel
          by_cases hlt : j < k
          · have jl : j < xs.length := by have := LN.out; omega
            have H5 := Lib.hid (K4.out _ (List.getElem_mem jl))
            have HNX := Lib.hid (chain_next xs j jl H5.out)
            have HLT : Hid ((chain (xs.take j)).length < (chain (xs.take (j + 1))).length ∧ (chain (xs.take (j + 1))).length ≤ (chain xs).length) := by
              refine ⟨?_, ?_⟩
              · rw [chain_snoc xs j jl, List.length_append, frame_len]; omega
              · rw [chain_split xs j jl, chain_snoc xs j jl]; simp only [List.length_append]; omega
            have h0 : (chain (xs.take j)).length < (chain (xs.take (j + 1))).length := HLT.out.1
            have h6 : (chain (xs.take (j + 1))).length ≤ 1000000 := Nat.le_trans HLT.out.2 K5.out
            have t0 : decide ((chain (xs.take (j + 1))).length ≤ (chain (xs.take j)).length) = false := by simp; omega
            go_wp2_with fail
            refine (next_any (chain xs) A4 (chain xs).length c4 _ _ (K1.out.below HQ.out.2 (Nat.le_refl _)) (by have := K5.out; omega) K2.out.1 K2.out.2).mono ?_
            rw [HNX.out]
            rintro e w5 ⟨v5, rfl, o5, f5, b5⟩
            obtain ⟨AX, cX, rfl, s5⟩ := own_form o5
            have B5 := Lib.hid (HQ.out.1.trans (b5.mono HQ.out.1.size))
            have B6 := Lib.hid (HQ.out.2.trans (b5.mono HQ.out.2.size))
            obtain ⟨b, off, A2, c2, rfl, _, q0, s2, l2⟩ := KS.out _ B5.out j _ (List.getElem?_eq_getElem jl)
            have KX : Hid (∀ W, Reg.SB w5.drew W → Sl W 1 AX xs[j].length (byts xs[j])) := fun W hW => s5.below hW.old (Nat.le_refl _)
            have KE : Hid (∀ W, Reg.SB w5.drew W → Sl W 1 A2 xs[j].length (byts xs[j])) := fun W hW => s2.below hW.old (Nat.le_refl _)
            have KC : Hid (∀ W, Reg.SB w5.drew W → W.cell? ⟨b, off + j, none⟩ = some (.slice A2 xs[j].length c2)) := fun W hW => (hW.old.cell (World.block_lt_of_cell? w5 ⟨b, off + j, none⟩ q0)).trans q0
            have hlti : (j : Int) < (k : Int) := by omega
            have h0i : (0 : Int) ≤ (j : Int) := by omega
            clear o5 f5 b5 s5 s2 q0 H5 HNX
            generalize xs[j] = x at *
            go_wp2_with fail
            refine Reg.start (by kernel_rfl) ?_
            refine Reg.take 0 (v := ?_) rfl (by kernel_rfl) (fun _ _ _ h => h) rfl ?_ ?_
            rotate_left
            · intro W hW
              go_simp
              try with_reducible rfl
            try simp only [Act.put, List.setIfInBounds_toArray, List.set_cons_zero, List.set_cons_succ]
            refine Reg.take 1 (v := ?_) rfl (by kernel_rfl) (fun _ _ _ h => h) rfl ?_ ?_
            rotate_left
            · intro W hW
              go_simp
              try with_reducible rfl
            try simp only [Act.put, List.setIfInBounds_toArray, List.set_cons_zero, List.set_cons_succ]
            refine Reg.take 2 (v := ?_) rfl (by kernel_rfl) (fun _ _ _ h => h) rfl ?_ ?_
            rotate_left
            · intro W hW
              go_simp
              try with_reducible rfl
            try simp only [Act.put, List.setIfInBounds_toArray, List.set_cons_zero, List.set_cons_succ]
            refine Reg.take 3 (v := ?_) rfl (by kernel_rfl) (fun _ _ _ h => h) rfl ?_ ?_
            rotate_left
            · intro W hW
              go_simp
              try with_reducible rfl
            try simp only [Act.put, List.setIfInBounds_toArray, List.set_cons_zero, List.set_cons_succ]
            refine Reg.take 4 (v := ?_) rfl (by kernel_rfl) (fun _ _ _ h => h) rfl ?_ ?_
            rotate_left
            · intro W hW
              have q := run_conv (KX.out W hW) cX
              go_simp
              try with_reducible rfl
            try simp only [Act.put, List.setIfInBounds_toArray, List.set_cons_zero, List.set_cons_succ]
            refine Reg.take 5 (v := ?_) rfl (by kernel_rfl) (fun _ _ _ h => h) rfl ?_ ?_
            rotate_left
            · intro W hW
              go_simp
              try with_reducible rfl
            try simp only [Act.put, List.setIfInBounds_toArray, List.set_cons_zero, List.set_cons_succ]
            refine Reg.take 6 (v := ?_) rfl (by kernel_rfl) (fun _ _ _ h => h) rfl ?_ ?_
            rotate_left
            · intro W hW
              go_simp
              try with_reducible rfl
            try simp only [Act.put, List.setIfInBounds_toArray, List.set_cons_zero, List.set_cons_succ]
            refine Reg.take 7 (v := ?_) rfl (by kernel_rfl) (fun _ _ _ h => h) rfl ?_ ?_
            rotate_left
            · intro W hW
              go_simp
              try with_reducible rfl
            try simp only [Act.put, List.setIfInBounds_toArray, List.set_cons_zero, List.set_cons_succ]
            refine Reg.take 8 (v := ?_) rfl (by kernel_rfl) (fun _ _ _ h => h) rfl ?_ ?_
            rotate_left
            · intro W hW
              have q := KC.out W hW
              go_simp
              try with_reducible rfl
            try simp only [Act.put, List.setIfInBounds_toArray, List.set_cons_zero, List.set_cons_succ]
            refine Reg.take 9 (v := ?_) rfl (by kernel_rfl) (fun _ _ _ h => h) rfl ?_ ?_
            rotate_left
            · intro W hW
              have q := run_conv (KE.out W hW) c2
              go_simp
              try with_reducible rfl
            try simp only [Act.put, List.setIfInBounds_toArray, List.set_cons_zero, List.set_cons_succ]
            refine Reg.take 10 (v := ?_) rfl (by kernel_rfl) (fun _ _ _ h => h) rfl ?_ ?_
            rotate_left
            · intro W hW
              go_simp
              try with_reducible rfl
            try simp only [Act.put, List.setIfInBounds_toArray, List.set_cons_zero, List.set_cons_succ]
            refine Reg.take 11 (v := ?_) rfl (by kernel_rfl) (fun _ _ _ h => h) rfl ?_ ?_
            rotate_left
            · intro W hW
              go_simp
              try with_reducible rfl
            try simp only [Act.put, List.setIfInBounds_toArray, List.set_cons_zero, List.set_cons_succ]
            refine Reg.take 12 (v := ?_) rfl (by kernel_rfl) (fun _ _ _ h => h) rfl ?_ ?_
            rotate_left
            · intro W hW
              go_simp
              try with_reducible rfl
            try simp only [Act.put, List.setIfInBounds_toArray, List.set_cons_zero, List.set_cons_succ]
            refine Reg.take 13 (v := ?_) rfl (by kernel_rfl) (fun _ _ _ h => h) rfl ?_ ?_
            rotate_left
            · intro W hW
              go_simp
              try with_reducible rfl
            try simp only [Act.put, List.setIfInBounds_toArray, List.set_cons_zero, List.set_cons_succ]
            refine Reg.take 14 (v := ?_) rfl (by kernel_rfl) (fun _ _ _ h => h) rfl ?_ ?_
            rotate_left
            · intro W hW
              go_simp
              try with_reducible rfl
            try simp only [Act.put, List.setIfInBounds_toArray, List.set_cons_zero, List.set_cons_succ]
            refine Reg.take 15 (v := ?_) rfl (by kernel_rfl) (fun _ _ _ h => h) rfl ?_ ?_
            rotate_left
            · intro W hW
              go_simp
              try with_reducible rfl
            try simp only [Act.put, List.setIfInBounds_toArray, List.set_cons_zero, List.set_cons_succ]
            refine Reg.take 16 (v := ?_) rfl (by kernel_rfl) (fun _ _ _ h => h) rfl ?_ ?_
            rotate_left
            · intro W hW
              go_simp
              try with_reducible rfl
            try simp only [Act.put, List.setIfInBounds_toArray, List.set_cons_zero, List.set_cons_succ]
            refine Reg.done (by kernel_rfl) ?_
            go_wp2_with fail
            go_roundw
            case rel => exact ⟨j + 1, by omega, by go_num, rfl, ⟨B5.out.drew, B6.out.drew⟩⟩
            case measure => simp [intOf]; omega
          · obtain rfl : j = k := by omega
            have HT2 : Hid ((chain (xs.take j)).length = (chain xs).length) := by show _ = _; rw [HT.out]
            have HNX : Hid (nres (next (chain xs) ((chain (xs.take j)).length : Int)) = ([], 0, 28)) := by
              show _ = _
              rw [HT.out]
              exact chain_end xs
            go_wp2_with fail
            refine (next_any (chain xs) A4 (chain xs).length c4 _ _ (K1.out.below HQ.out.2 (Nat.le_refl _)) (by have := K5.out; omega) K2.out.1 K2.out.2).mono ?_
            rw [HNX.out]
            rintro e w5 ⟨v5, rfl, o5, f5, b5⟩
            have B5 := Lib.hid (HQ.out.1.trans (b5.mono HQ.out.1.size))
            rw [HT2.out]
            clear o5 f5 b5
            go_wp2_with fail
            refine (awake8 _).mono ?_
            rintro e w7 ⟨rfl, b7⟩
            have B7 := Lib.hid (B5.out.trans (b7.mono B5.out.size))
            clear b7
            go_wp2_with fail
            go_ret
            exact ⟨rfl, B7.out⟩
  · have hni : (100 : Int) < (n : Int) := by omega
    go_enter Try.func8, Try.ntmps8
    go_wp2_with fail
    refine (awake8 _).mono ?_
    rintro e w1 ⟨rfl, b1⟩
    have B1 := Lib.hid b1
    clear b1
    go_wp2_with fail
    go_ret
    exact ⟨rfl, B1.out⟩
end Go.Proofs.Yteikdmkplbbckaa.Wr
