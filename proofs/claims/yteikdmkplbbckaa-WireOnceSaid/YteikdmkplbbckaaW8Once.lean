/-
  The walk of WireOnce: what was read without an error, written again, is the bytes that were read. Conditions: the bytes and the calls lie in memory.
-/
import Derived.Test.YteikdmkplbbckaaW8WriteB
import Derived.Test.YteikdmkplbbckaaW8Reads
import Derived.Test.YteikdmkplbbckaaConv
import Derived.Test.YteikdmkplbbckaaReg
import Derived.Test.YteikdmkplbbckaaCut
namespace Go.Proofs.Yteikdmkplbbckaa.Wr
open Go.RowKit Go.Proofs.Yteikdmkplbbckaa.Mem Go.Proofs.Yteikdmkplbbckaa.Eqs

theorem item_size9 : (Try.prog.info? 33).map (·.size) = some 5 := by kernel_rfl
theorem exec_load_item9 (ρ : Operand → Value) (dst : Option Tmp) (x : Operand) (ty : TypeId) (pos : String) (after : Array Edge) (guard : Option (Nat × Bool)) :
    execOp ρ { dst, op := .load 33 x, type := ty, pos, after, guard } = (do pure (.value (← loadRow 33 (ρ x)))) := rfl
attribute [local go_sem ↓] exec_conv exec_cut exec_load_item9

/-- a reader of bs in the state st, and a writer that has written ys; all of it newer than w. -/
structure Onc (w wr : World) (p : Nat) (AR : Option Addr) (g : Nat) (u : Value) (bs : List UInt8) (st : RS) (ys : List UInt8) : Prop where
  r : Rd 72 wr p AR bs st
  v : Wr 66 wr g u ys
  apart : ∀ k, rown p AR k → ¬ own g u k
  rnew : ∀ k, rown p AR k → w.heap.size ≤ k
  vnew : ∀ k, own g u k → w.heap.size ≤ k
  old : Below w.heap.size w wr
section
variable {w wr w' : World} {p : Nat} {AR : Option Addr} {g : Nat} {u : Value} {bs : List UInt8} {st : RS} {ys : List UInt8}
theorem Onc.further (h : Onc w wr p AR g u bs st ys) (hb : Below wr.heap.size wr w') : Onc w w' p AR g u bs st ys :=
  ⟨h.r.below hb, h.v.below hb, h.apart, h.rnew, h.vnew, h.old.trans (hb.mono h.old.size)⟩
theorem Onc.read {st' : RS} (h : Onc w wr p AR g u bs st ys) (hf : Frm (· = p) wr w') (hr : Rd 72 w' p AR bs st') : Onc w w' p AR g u bs st' ys :=
  ⟨hr, h.v.keep hf (fun k hk e => h.apart p (.inl rfl) (by rw [← e]; exact hk)), h.apart, h.rnew, h.vnew, h.old.trans (hf.below h.old.size (fun i hi e => by have := h.rnew p (.inl rfl); omega))⟩
theorem Onc.other {x : Nat} (h : Onc w wr p AR g u bs st ys) (hf : Frm (· = x) wr w') (h1 : ¬ rown p AR x) (h2 : ¬ own g u x) (h3 : w.heap.size ≤ x) : Onc w w' p AR g u bs st ys :=
  ⟨h.r.keep hf (fun k hk e => h1 (by rw [← e]; exact hk)), h.v.keep hf (fun k hk e => h2 (by rw [← e]; exact hk)), h.apart, h.rnew, h.vnew, h.old.trans (hf.below h.old.size (fun i hi e => by omega))⟩
theorem Onc.wrote {u' : Value} {zs : List UInt8} (h : Onc w wr p AR g u bs st ys) (ht : WrTo g u u' wr w') (hw : Wr 66 w' g u' zs) : Onc w w' p AR g u' bs st zs := by
  refine ⟨h.r.keep ht.1 h.apart, hw, fun k hk ho => ?_, h.rnew, fun k ho => ?_, h.old.trans (ht.below h.old.size h.vnew)⟩
  · rcases ho with rfl | ho
    · exact h.apart _ hk (.inl rfl)
    · rcases ht.2 k ho with e | e
      · exact h.apart _ hk (.inr e)
      · have := h.r.rown_lt hk
        omega
  · rcases ho with rfl | ho
    · exact h.vnew _ (.inl rfl)
    · rcases ht.2 k ho with e | e
      · exact h.vnew _ (.inr e)
      · exact Nat.le_trans h.old.size e
end
theorem left_pos {bs : List UInt8} {s : RS} (h : s.ok bs) (he : s.err = 0) : (bs.length : Int) - (rLeft bs s : Int) = (s.pos : Int) := by
  have := h.1
  unfold rLeft
  rw [if_pos he]
  omega
theorem i64_zero : I64 0 := ⟨by omega, by omega⟩
theorem n64_zero : N64 0 := by unfold N64; omega
theorem encs_one (x : It) : encs [x] = x.enc := by simp [encs]
/-- one item in a block of its own. -/
theorem one_item {W : World} {G : Nat → Prop} {gy : Nat} {T : TypeId} {cs : Array Value} {x : It} (hb : Blk W gy T cs) (hG : G gy) (hi : IsIt W G cs x) (h5 : cs.size = 5) : ItSl W G (some ⟨gy, 0, none⟩) [x] := by
  intro k y hk
  cases k with
  | zero =>
    have e : x = y := by simpa using hk
    subst e
    exact ⟨gy, 0, cs, rfl, hG, h5, hi, fun j v hv => by rw [show 0 + 0 * 5 + j = j from by omega, hb.cell j]; exact hv⟩
  | succ k => simp at hk
theorem isIt_alloc {W : World} {G : Nat → Prop} {cs : Array Value} {x : It} (h : IsIt W G cs x) (o : Obj) : IsIt (W.alloc o) G cs x :=
  h.frm (F := fun _ => False) ((Frm.refl _ W).alloc o) fun _ _ g => g
theorem cut_bytes {W : World} {A A2 : Option Addr} {m c c2 pos : Nat} {bs : List UInt8} (h : CutOf A m c 0 pos 1 A2 c2) (hs : Sl W 1 A m (byts bs)) (hp : pos ≤ m) : Sl W 1 A2 pos (byts (bs.take pos)) := by
  have h2 := h.cells W _ hs hp
  simp only [List.drop_zero, Nat.sub_zero, Nat.mul_one] at h2
  have e : (byts bs).take pos = byts (bs.take pos) := by unfold byts; rw [List.map_take]
  rw [e] at h2
  exact h2

set_option maxRecDepth 100000 in
set_option maxHeartbeats 8000000 in
theorem once_few (bs : List UInt8) (xs : List (Int × Int)) (A AX : Option Addr) (m c n cx : Nat) (w : World) (hs : Sl w 1 A m (byts bs)) (hm : m ≤ 20000) (hc : m ≤ c) (hn : xs.length = n) (hn2 : n ≤ 200) (hx : AskSl w AX xs) :
    Calls Try.prog 6 #[.slice A m c, .slice AX n cx] w fun e w' => e = .returned (.bool true) ∧ Below w.heap.size w w' := by
  have LN := Lib.hid hn
  have HX := Lib.hid hx
  have HS := Lib.hid hs
  have LM : Hid (bs.length = m) := by show _ = _; simpa [byts_len] using hs.1
  have hmi : (m : Int) ≤ 20000 := by omega
  have hni : (n : Int) ≤ 200 := by omega
  have HFit : Hid (Fit 20000000) := by unfold Fit; show _ ≤ _; decide
  clear hn hx hs
  go_enter Try.func6, Try.ntmps6
  go_wp2_with fail
  refine (newReader_any bs A m c _ HS.out (by omega)).mono ?_
  rintro e w1 ⟨p, AR, rfl, hown, hrd, hb1⟩
  have R1 := Lib.hid hrd
  have O1 := Lib.hid hown
  have B1 := Lib.hid hb1
  clear hown hrd hb1
  go_wp2_with fail
  refine (newWriter_any _).mono ?_
  rintro e wS ⟨g, rfl, hg, hw1, hb2⟩
  have hog : ∀ k, own g (.slice none 0 0) k → k = g := fun k ho => by
    rcases ho with h | h
    · exact h
    · cases h
  have T0 : Hid (Onc w wS p AR g (.slice none 0 0) bs ⟨0, 0⟩ (bs.take 0)) := ⟨R1.out.below hb2, (by simpa using hw1), (fun k hk ho => by
      have h1 := R1.out.rown_lt hk
      have := hog k ho
      omega), O1.out, (fun k ho => by
      have := hog k ho
      have := B1.out.size
      omega), B1.out.trans (hb2.mono B1.out.size)⟩
  clear hg hw1 hb2 R1 O1 B1 hog
  go_wp2_with fail
  go_loopw [31] (fun i wr => ∃ (k : Nat) (st : RS) (u : Value), k ≤ n ∧ i = .int .i64 k ∧ Hid (Onc w wr p AR g u bs st (bs.take st.pos) ∧ st.err = 0)) (fun i _ => n - (intOf i).toNat)
  case atStart => exact ⟨0, ⟨0, 0⟩, _, by omega, rfl, ⟨T0.out, rfl⟩⟩
  case round =>
    obtain ⟨k, st, u, hk, rfl, HR⟩ := hrel
    by_cases hlt : k < n
    · have kl : k < xs.length := by have := LN.out; omega
      go_wp2_with fail
      refine (rleft_any p AR bs st _ HR.out.1.r).mono ?_
      rintro e w8 ⟨rfl, q8, hq8⟩
      have T1 : Hid (Onc w w8 p AR g u bs st (bs.take st.pos)) := by rw [hq8]; exact HR.out.1.further (below_of_drewN _ _ _)
      clear hq8 HR
      obtain ⟨b, off, rfl, hbl, q0, q1, hI⟩ := HX.out.below T1.out.old k _ (List.getElem?_eq_getElem kl)
      have hlti : (k : Int) < (n : Int) := by omega
      have h0i : (0 : Int) ≤ (k : Int) := by omega
      have HI := Lib.hid hI
      clear hI
      generalize xs[k] = x at *
      obtain ⟨kind, most⟩ := x
      change w8.cell? _ = some (.int .i64 kind) at q0
      change w8.cell? _ = some (.int .i64 most) at q1
      change Hid (I64 most) at HI
      generalize rLeft bs st = left at *
      have HPX : Hid (p < w8.heap.size) := T1.out.r.lt
      have HNX1 : Hid (¬ rown p AR w8.heap.size) := fun h => Nat.lt_irrefl _ (T1.out.r.rown_lt h)
      have HNX2 : Hid (¬ own g u w8.heap.size) := fun h => Nat.lt_irrefl _ (T1.out.v.lt h)
      have HOK := Lib.hid T1.out.r.ok
      by_cases k1 : kind = 1
      · have t1 : (kind == 1) = true := by simp [k1]
        have HKd : Hid (kind = 1) := k1
        clear k1
        go_wp2_with fail
        have T2 := Lib.hid (T1.out.further ((Below.refl _ _).alloc (Nat.le_refl _) (.cells #[.int .i64 kind, .int .i64 0, .int .u64 0, .string ⟨#[]⟩, .slice none 0 0] 33)))
        refine (rint_any p AR bs st _ T2.out.r).mono ?_
        rintro e w9 ⟨rfl, r9, f9⟩
        have T3 := Lib.hid (T2.out.read f9 r9)
        have KX := Lib.hid ((Blk.new w8 33 #[.int .i64 kind, .int .i64 0, .int .u64 0, .string ⟨#[]⟩, .slice none 0 0]).frm f9 (fun e => by have := HPX.out; omega))
        have q11 : w9.cell? ⟨w8.heap.size, 1, none⟩ = some (.int .i64 0) := KX.out.cell 1
        have f11 := KX.out.frozen 1
        clear r9 f9 T2
        go_wp2_with fail
        have KB := Lib.hid (KX.out.put 1 (.int .i64 (rI bs st).1))
        simp only [List.setIfInBounds_toArray, List.set_cons_zero, List.set_cons_succ] at KB
        have T4 := Lib.hid (T3.out.other ((Frm.refl (· = w8.heap.size) w9).setCell (p := ⟨w8.heap.size, 1, none⟩) (fun _ => rfl) (.int .i64 (rI bs st).1)) HNX1.out HNX2.out T1.out.old.size)
        obtain ⟨W, hW⟩ : ∃ W, W = w9.setCell ⟨w8.heap.size, 1, none⟩ (.int .i64 (rI bs st).1) := ⟨_, rfl⟩
        rw [← hW] at T4 KB ⊢
        clear hW T3 KX
        refine (rerr_any p AR bs _ _ T4.out.r).mono ?_
        rintro e w' ⟨rfl, rfl⟩
        by_cases he : (rI bs st).2.err = 0
        · have HEn : Hid (bs.take (rI bs st).2.pos = bs.take st.pos ++ encs [(⟨kind, (rI bs st).1, 0, ⟨#[]⟩, []⟩ : It)]) := by show _ = _; rw [encs_one, enc1 HKd.out]; exact (rI_back he).2
          have HE := Lib.hid he
          have t5 : ((rI bs st).2.err != 0) = false := by simp [he]
          have HPos := Lib.hid (left_pos T4.out.r.ok he)
          have HP2 : Hid ((rI bs st).2.pos ≤ m) := by have := T4.out.r.ok.1; have := LM.out; show _ ≤ _; omega
          rw [LM.out] at HPos
          clear he
          have l0 := run_loadRow (P := Try.prog) KB.out Try.underlying33 item_size9
          go_wp2_with fail
          clear l0 t5
          obtain ⟨W2, hW2⟩ : ∃ W2, W2 = W.alloc (.cells #[.int .i64 kind, .int .i64 (rI bs st).1, .int .u64 0, .string ⟨#[]⟩, .slice none 0 0] 33) := ⟨_, rfl⟩
          have T5 : Hid (Onc w W2 p AR g u bs (rI bs st).2 (bs.take st.pos)) := by rw [hW2]; exact T4.out.further ((Below.refl _ _).alloc (Nat.le_refl _) _)
          have KY : Hid (Blk W2 W.heap.size 33 #[.int .i64 kind, .int .i64 (rI bs st).1, .int .u64 0, .string ⟨#[]⟩, .slice none 0 0]) := by rw [hW2]; exact Blk.new _ _ _
          have HSz : Hid (W2.heap.size = W.heap.size + 1) := by show _ = _; rw [hW2]; simp
          rw [← hW2]
          clear hW2
          have HIt : Hid (ItSl W2 (fun k => k < W2.heap.size ∧ ¬ own g u k) (some ⟨W.heap.size, 0, none⟩) [(⟨kind, (rI bs st).1, 0, ⟨#[]⟩, []⟩ : It)]) := one_item KY.out ⟨by have := HSz.out; omega, fun ho => Nat.lt_irrefl _ (T4.out.v.lt ho)⟩ (⟨none, 0, rfl, Sl.nil_ _ _ _, fun h0 => absurd h0 (by simp), (rI_fine HOK.out).2.1, n64_zero, (fun y hy => by cases hy), by show 0 ≤ _; decide, by show 0 ≤ _; decide⟩) rfl
          have HMid : Hid (∀ x ∈ [(⟨kind, (rI bs st).1, 0, ⟨#[]⟩, []⟩ : It)], x.mid) := fun x hx => by rw [List.mem_singleton] at hx; rw [hx]; exact ⟨by show 0 ≤ _; decide, by show 0 ≤ _; decide⟩
          refine (write_big g u (bs.take st.pos) [(⟨kind, (rI bs st).1, 0, ⟨#[]⟩, []⟩ : It)] _ _ 1 _ _ T5.out.v rfl (by omega) HIt.out HMid.out (fun k hk => hk) (HFit.out.of (by rw [List.length_take]; have := LM.out; omega))).mono ?_
          rintro e w10 ⟨rfl, u3, hw10, ht10⟩
          rw [← HEn.out] at hw10
          have T6 := Lib.hid (T5.out.wrote ht10 hw10)
          clear hw10 ht10 HIt HMid KY T5 T4 KB HEn
          generalize (rI bs st).2 = s2 at *
          go_wp2_with fail
          refine (rleft_any p AR bs s2 _ T6.out.r).mono ?_
          rintro e w11 ⟨rfl, q11, hq11⟩
          have T7 : Hid (Onc w w11 p AR g u3 bs s2 (bs.take s2.pos)) := by rw [hq11]; exact T6.out.further (below_of_drewN _ _ _)
          clear hq11 T6
          have hleft : (rLeft bs s2 : Int) ≤ (m : Int) := by have := HPos.out; omega
          have hleft0 : (0 : Int) ≤ (rLeft bs s2 : Int) := by omega
          generalize rLeft bs s2 = lf at *
          go_wp2_with fail
          rw [HPos.out]
          obtain ⟨AC, cC, hcut, hco⟩ := run_cut_to (P := Try.prog) (size := 1) Try.underlying38 (by kernel_rfl) A m c s2.pos (by have := HP2.out; omega)
          have HCut := Lib.hid hcut
          have KCut : Hid (∀ W, Below w.heap.size w W → Sl W 1 AC s2.pos (byts (bs.take s2.pos))) := fun W hb => cut_bytes hco (HS.out.below hb (Nat.le_refl _)) HP2.out
          have T7 := Lib.hid (T7.out.further ((Below.refl _ _).drew))
          have t8 : decide ((s2.pos : Int) < 0) = false := by simp
          have t9 : decide (m < s2.pos) = false := by have := HP2.out; simp; omega
          clear hcut hco HPos hleft hleft0 HP2
          have HYL : Hid ((bs.take s2.pos).length ≤ 20000) := by rw [List.length_take]; have := LM.out; show _ ≤ _; omega
          generalize hys : bs.take s2.pos = ys at *
          have HYs := Lib.hid hys
          clear hys
          refine Reg.start (by kernel_rfl) ?_
          refine Reg.take 0 (v := ?_) rfl (by kernel_rfl) (fun _ _ _ h => h) rfl ?_ ?_
          rotate_left
          · intro W hW
            go_simp
            try with_reducible rfl
          try simp only [Act.put, List.setIfInBounds_toArray, List.set_cons_zero, List.set_cons_succ]
          refine Reg.take 1 (v := ?_) rfl (by kernel_rfl) (fun _ _ _ h => h) rfl ?_ ?_
          rotate_left
          · intro W hW
            go_simp
            try with_reducible rfl
          try simp only [Act.put, List.setIfInBounds_toArray, List.set_cons_zero, List.set_cons_succ]
          refine Reg.take 2 (v := ?_) rfl (by kernel_rfl) (fun _ _ _ h => h) rfl ?_ ?_
          rotate_left
          · intro W hW
            go_simp
            try with_reducible rfl
          try simp only [Act.put, List.setIfInBounds_toArray, List.set_cons_zero, List.set_cons_succ]
          refine Reg.take 3 (v := ?_) rfl (by kernel_rfl) (fun _ _ _ h => h) rfl ?_ ?_
          rotate_left
          · intro W hW
            go_simp
            try with_reducible rfl
          try simp only [Act.put, List.setIfInBounds_toArray, List.set_cons_zero, List.set_cons_succ]
          refine Reg.take 4 (v := ?_) rfl (by kernel_rfl) (fun _ _ _ h => h) rfl ?_ ?_
          rotate_left
          · intro W hW
            go_simp
            try with_reducible rfl
          try simp only [Act.put, List.setIfInBounds_toArray, List.set_cons_zero, List.set_cons_succ]
          refine Reg.take 5 (v := ?_) rfl (by kernel_rfl) (fun _ _ _ h => h) rfl ?_ ?_
          rotate_left
          · intro W hW
            go_simp
            try with_reducible rfl
          try simp only [Act.put, List.setIfInBounds_toArray, List.set_cons_zero, List.set_cons_succ]
          refine Reg.take 6 (v := ?_) rfl (by kernel_rfl) (fun _ _ _ h => h) rfl ?_ ?_
          rotate_left
          · intro W hW
            go_simp
            try with_reducible rfl
          try simp only [Act.put, List.setIfInBounds_toArray, List.set_cons_zero, List.set_cons_succ]
          refine Reg.take 7 (v := ?_) rfl (by kernel_rfl) (fun _ _ _ h => h) rfl ?_ ?_
          rotate_left
          · intro W hW
            go_simp
            try with_reducible rfl
          try simp only [Act.put, List.setIfInBounds_toArray, List.set_cons_zero, List.set_cons_succ]
          refine Reg.take 8 (v := ?_) rfl (by kernel_rfl) (fun _ _ _ h => h) rfl ?_ ?_
          rotate_left
          · intro W hW
            go_simp
            try with_reducible rfl
          try simp only [Act.put, List.setIfInBounds_toArray, List.set_cons_zero, List.set_cons_succ]
          refine Reg.take 9 (v := ?_) rfl (by kernel_rfl) (fun _ _ _ h => h) rfl ?_ ?_
          rotate_left
          · intro W hW
            go_simp
            try with_reducible rfl
          try simp only [Act.put, List.setIfInBounds_toArray, List.set_cons_zero, List.set_cons_succ]
          refine Reg.take 12 (v := ?_) rfl (by kernel_rfl) (fun _ _ _ h => h) rfl ?_ ?_
          rotate_left
          · intro W hW
            go_simp
            try with_reducible rfl
          try simp only [Act.put, List.setIfInBounds_toArray, List.set_cons_zero, List.set_cons_succ]
          refine Reg.take 13 (v := ?_) rfl (by kernel_rfl) (fun _ _ _ h => h) rfl ?_ ?_
          rotate_left
          · intro W hW
            go_simp
            try with_reducible rfl
          try simp only [Act.put, List.setIfInBounds_toArray, List.set_cons_zero, List.set_cons_succ]
          refine Reg.take 14 (v := ?_) rfl (by kernel_rfl) (fun _ _ _ h => h) rfl ?_ ?_
          rotate_left
          · intro W hW
            have q := HCut.out W
            go_simp
            try with_reducible rfl
          try simp only [Act.put, List.setIfInBounds_toArray, List.set_cons_zero, List.set_cons_succ]
          refine Reg.take 15 (v := ?_) rfl (by kernel_rfl) (fun _ _ _ h => h) rfl ?_ ?_
          rotate_left
          · intro W hW
            have q := run_conv (KCut.out W (T7.out.old.trans (Below.mono hW T7.out.old.size))) cC
            go_simp
            try with_reducible rfl
          try simp only [Act.put, List.setIfInBounds_toArray, List.set_cons_zero, List.set_cons_succ]
          refine Reg.do_ 10 rfl (by kernel_rfl) rfl (fun K hK => ?_)
          go_simp
          refine (wbytes_any g u3 _ _ T7.out.v (HFit.out.of (by have := HYL.out; omega))).mono ?_
          rintro e w12 ⟨v12, rfl, o12, f12, b12⟩
          obtain ⟨A12, c12, rfl, s12⟩ := own_form o12
          have S12 := Lib.hid s12
          have B12 := Lib.hid b12
          clear o12 f12 s12
          refine hK.out _ _ b12 ?_
          clear hK K b12
          try simp only [Act.put, List.setIfInBounds_toArray, List.set_cons_zero, List.set_cons_succ]
          refine Reg.take 11 (v := ?_) rfl (by kernel_rfl) (fun _ _ _ h => h) rfl ?_ ?_
          rotate_left
          · intro W hW
            have q := run_conv (S12.out.below hW.all (Nat.le_refl _)) c12
            go_simp
            try with_reducible rfl
          try simp only [Act.put, List.setIfInBounds_toArray, List.set_cons_zero, List.set_cons_succ]
          refine Reg.take 16 (v := ?_) rfl (by kernel_rfl) (fun _ _ _ h => h) rfl ?_ ?_
          rotate_left
          · intro W hW
            go_simp
            try with_reducible rfl
          try simp only [Act.put, List.setIfInBounds_toArray, List.set_cons_zero, List.set_cons_succ]
          refine Reg.take 17 (v := ?_) rfl (by kernel_rfl) (fun _ _ _ h => h) rfl ?_ ?_
          rotate_left
          · intro W hW
            go_simp
            try with_reducible rfl
          try simp only [Act.put, List.setIfInBounds_toArray, List.set_cons_zero, List.set_cons_succ]
          refine Reg.done (by kernel_rfl) ?_
          go_wp2_with fail
          go_roundw
          case rel => exact ⟨k + 1, s2, u3, by omega, by go_num, ⟨by rw [HYs.out]; exact T7.out.further B12.out, HE.out⟩⟩
          case measure => simp [intOf]; omega
        · have t5 : ((rI bs st).2.err != 0) = true := by simp [he]
          have h0l : (0 : Int) ≤ (left : Int) := by omega
          have B4 := Lib.hid T4.out.old
          clear he
          go_wp2_with fail
          refine (awake8 _).mono ?_
          rintro e w7 ⟨rfl, b7⟩
          have B7 := Lib.hid (B4.out.trans (b7.mono B4.out.size))
          clear b7
          go_wp2_with fail
          go_ret
          exact ⟨rfl, B7.out⟩
      · have t1 : (kind == 1) = false := by simpa using k1
        by_cases k2 : kind = 2
        · have t2 : (kind == 2) = true := by simp [k2]
          have HKd : Hid (kind = 2) := k2
          clear k1 k2
          go_wp2_with fail
          have T2 := Lib.hid (T1.out.further ((Below.refl _ _).alloc (Nat.le_refl _) (.cells #[.int .i64 kind, .int .i64 0, .int .u64 0, .string ⟨#[]⟩, .slice none 0 0] 33)))
          refine (ruint_any p AR bs st _ T2.out.r).mono ?_
          rintro e w9 ⟨rfl, r9, f9⟩
          have T3 := Lib.hid (T2.out.read f9 r9)
          have KX := Lib.hid ((Blk.new w8 33 #[.int .i64 kind, .int .i64 0, .int .u64 0, .string ⟨#[]⟩, .slice none 0 0]).frm f9 (fun e => by have := HPX.out; omega))
          have q12 : w9.cell? ⟨w8.heap.size, 2, none⟩ = some (.int .u64 0) := KX.out.cell 2
          have f12 := KX.out.frozen 2
          clear r9 f9 T2
          go_wp2_with fail
          have KB := Lib.hid (KX.out.put 2 (.int .u64 ((rU bs st).1 : Int)))
          simp only [List.setIfInBounds_toArray, List.set_cons_zero, List.set_cons_succ] at KB
          have T4 := Lib.hid (T3.out.other ((Frm.refl (· = w8.heap.size) w9).setCell (p := ⟨w8.heap.size, 2, none⟩) (fun _ => rfl) (.int .u64 ((rU bs st).1 : Int))) HNX1.out HNX2.out T1.out.old.size)
          obtain ⟨W, hW⟩ : ∃ W, W = w9.setCell ⟨w8.heap.size, 2, none⟩ (.int .u64 ((rU bs st).1 : Int)) := ⟨_, rfl⟩
          rw [← hW] at T4 KB ⊢
          clear hW T3 KX
          refine (rerr_any p AR bs _ _ T4.out.r).mono ?_
          rintro e w' ⟨rfl, rfl⟩
          by_cases he : (rU bs st).2.err = 0
          · have HEn : Hid (bs.take (rU bs st).2.pos = bs.take st.pos ++ encs [(⟨kind, 0, (rU bs st).1, ⟨#[]⟩, []⟩ : It)]) := by show _ = _; rw [encs_one, enc2 HKd.out]; exact (rU_back he).2
            have HE := Lib.hid he
            have t5 : ((rU bs st).2.err != 0) = false := by simp [he]
            have HPos := Lib.hid (left_pos T4.out.r.ok he)
            have HP2 : Hid ((rU bs st).2.pos ≤ m) := by have := T4.out.r.ok.1; have := LM.out; show _ ≤ _; omega
            rw [LM.out] at HPos
            clear he
            have l0 := run_loadRow (P := Try.prog) KB.out Try.underlying33 item_size9
            go_wp2_with fail
            clear l0 t5
            obtain ⟨W2, hW2⟩ : ∃ W2, W2 = W.alloc (.cells #[.int .i64 kind, .int .i64 0, .int .u64 ((rU bs st).1 : Int), .string ⟨#[]⟩, .slice none 0 0] 33) := ⟨_, rfl⟩
            have T5 : Hid (Onc w W2 p AR g u bs (rU bs st).2 (bs.take st.pos)) := by rw [hW2]; exact T4.out.further ((Below.refl _ _).alloc (Nat.le_refl _) _)
            have KY : Hid (Blk W2 W.heap.size 33 #[.int .i64 kind, .int .i64 0, .int .u64 ((rU bs st).1 : Int), .string ⟨#[]⟩, .slice none 0 0]) := by rw [hW2]; exact Blk.new _ _ _
            have HSz : Hid (W2.heap.size = W.heap.size + 1) := by show _ = _; rw [hW2]; simp
            rw [← hW2]
            clear hW2
            have HIt : Hid (ItSl W2 (fun k => k < W2.heap.size ∧ ¬ own g u k) (some ⟨W.heap.size, 0, none⟩) [(⟨kind, 0, (rU bs st).1, ⟨#[]⟩, []⟩ : It)]) := one_item KY.out ⟨by have := HSz.out; omega, fun ho => Nat.lt_irrefl _ (T4.out.v.lt ho)⟩ (⟨none, 0, rfl, Sl.nil_ _ _ _, fun h0 => absurd h0 (by simp), i64_zero, (rU_fine HOK.out).2.1, (fun y hy => by cases hy), by show 0 ≤ _; decide, by show 0 ≤ _; decide⟩) rfl
            have HMid : Hid (∀ x ∈ [(⟨kind, 0, (rU bs st).1, ⟨#[]⟩, []⟩ : It)], x.mid) := fun x hx => by rw [List.mem_singleton] at hx; rw [hx]; exact ⟨by show 0 ≤ _; decide, by show 0 ≤ _; decide⟩
            refine (write_big g u (bs.take st.pos) [(⟨kind, 0, (rU bs st).1, ⟨#[]⟩, []⟩ : It)] _ _ 1 _ _ T5.out.v rfl (by omega) HIt.out HMid.out (fun k hk => hk) (HFit.out.of (by rw [List.length_take]; have := LM.out; omega))).mono ?_
            rintro e w10 ⟨rfl, u3, hw10, ht10⟩
            rw [← HEn.out] at hw10
            have T6 := Lib.hid (T5.out.wrote ht10 hw10)
            clear hw10 ht10 HIt HMid KY T5 T4 KB HEn
            generalize (rU bs st).2 = s2 at *
            go_wp2_with fail
            refine (rleft_any p AR bs s2 _ T6.out.r).mono ?_
            rintro e w11 ⟨rfl, q11, hq11⟩
            have T7 : Hid (Onc w w11 p AR g u3 bs s2 (bs.take s2.pos)) := by rw [hq11]; exact T6.out.further (below_of_drewN _ _ _)
            clear hq11 T6
            have hleft : (rLeft bs s2 : Int) ≤ (m : Int) := by have := HPos.out; omega
            have hleft0 : (0 : Int) ≤ (rLeft bs s2 : Int) := by omega
            generalize rLeft bs s2 = lf at *
            go_wp2_with fail
            rw [HPos.out]
            obtain ⟨AC, cC, hcut, hco⟩ := run_cut_to (P := Try.prog) (size := 1) Try.underlying38 (by kernel_rfl) A m c s2.pos (by have := HP2.out; omega)
            have HCut := Lib.hid hcut
            have KCut : Hid (∀ W, Below w.heap.size w W → Sl W 1 AC s2.pos (byts (bs.take s2.pos))) := fun W hb => cut_bytes hco (HS.out.below hb (Nat.le_refl _)) HP2.out
            have T7 := Lib.hid (T7.out.further ((Below.refl _ _).drew))
            have t8 : decide ((s2.pos : Int) < 0) = false := by simp
            have t9 : decide (m < s2.pos) = false := by have := HP2.out; simp; omega
            clear hcut hco HPos hleft hleft0 HP2
            have HYL : Hid ((bs.take s2.pos).length ≤ 20000) := by rw [List.length_take]; have := LM.out; show _ ≤ _; omega
            generalize hys : bs.take s2.pos = ys at *
            have HYs := Lib.hid hys
            clear hys
            refine Reg.start (by kernel_rfl) ?_
            refine Reg.take 0 (v := ?_) rfl (by kernel_rfl) (fun _ _ _ h => h) rfl ?_ ?_
            rotate_left
            · intro W hW
              go_simp
              try with_reducible rfl
            try simp only [Act.put, List.setIfInBounds_toArray, List.set_cons_zero, List.set_cons_succ]
            refine Reg.take 1 (v := ?_) rfl (by kernel_rfl) (fun _ _ _ h => h) rfl ?_ ?_
            rotate_left
            · intro W hW
              go_simp
              try with_reducible rfl
            try simp only [Act.put, List.setIfInBounds_toArray, List.set_cons_zero, List.set_cons_succ]
            refine Reg.take 2 (v := ?_) rfl (by kernel_rfl) (fun _ _ _ h => h) rfl ?_ ?_
            rotate_left
            · intro W hW
              go_simp
              try with_reducible rfl
            try simp only [Act.put, List.setIfInBounds_toArray, List.set_cons_zero, List.set_cons_succ]
            refine Reg.take 3 (v := ?_) rfl (by kernel_rfl) (fun _ _ _ h => h) rfl ?_ ?_
            rotate_left
            · intro W hW
              go_simp
              try with_reducible rfl
            try simp only [Act.put, List.setIfInBounds_toArray, List.set_cons_zero, List.set_cons_succ]
            refine Reg.take 4 (v := ?_) rfl (by kernel_rfl) (fun _ _ _ h => h) rfl ?_ ?_
            rotate_left
            · intro W hW
              go_simp
              try with_reducible rfl
            try simp only [Act.put, List.setIfInBounds_toArray, List.set_cons_zero, List.set_cons_succ]
            refine Reg.take 5 (v := ?_) rfl (by kernel_rfl) (fun _ _ _ h => h) rfl ?_ ?_
            rotate_left
            · intro W hW
              go_simp
              try with_reducible rfl
            try simp only [Act.put, List.setIfInBounds_toArray, List.set_cons_zero, List.set_cons_succ]
            refine Reg.take 6 (v := ?_) rfl (by kernel_rfl) (fun _ _ _ h => h) rfl ?_ ?_
            rotate_left
            · intro W hW
              go_simp
              try with_reducible rfl
            try simp only [Act.put, List.setIfInBounds_toArray, List.set_cons_zero, List.set_cons_succ]
            refine Reg.take 7 (v := ?_) rfl (by kernel_rfl) (fun _ _ _ h => h) rfl ?_ ?_
            rotate_left
            · intro W hW
              go_simp
              try with_reducible rfl
            try simp only [Act.put, List.setIfInBounds_toArray, List.set_cons_zero, List.set_cons_succ]
            refine Reg.take 8 (v := ?_) rfl (by kernel_rfl) (fun _ _ _ h => h) rfl ?_ ?_
            rotate_left
            · intro W hW
              go_simp
              try with_reducible rfl
            try simp only [Act.put, List.setIfInBounds_toArray, List.set_cons_zero, List.set_cons_succ]
            refine Reg.take 9 (v := ?_) rfl (by kernel_rfl) (fun _ _ _ h => h) rfl ?_ ?_
            rotate_left
            · intro W hW
              go_simp
              try with_reducible rfl
            try simp only [Act.put, List.setIfInBounds_toArray, List.set_cons_zero, List.set_cons_succ]
            refine Reg.take 12 (v := ?_) rfl (by kernel_rfl) (fun _ _ _ h => h) rfl ?_ ?_
            rotate_left
            · intro W hW
              go_simp
              try with_reducible rfl
            try simp only [Act.put, List.setIfInBounds_toArray, List.set_cons_zero, List.set_cons_succ]
            refine Reg.take 13 (v := ?_) rfl (by kernel_rfl) (fun _ _ _ h => h) rfl ?_ ?_
            rotate_left
            · intro W hW
              go_simp
              try with_reducible rfl
            try simp only [Act.put, List.setIfInBounds_toArray, List.set_cons_zero, List.set_cons_succ]
            refine Reg.take 14 (v := ?_) rfl (by kernel_rfl) (fun _ _ _ h => h) rfl ?_ ?_
            rotate_left
            · intro W hW
              have q := HCut.out W
              go_simp
              try with_reducible rfl
            try simp only [Act.put, List.setIfInBounds_toArray, List.set_cons_zero, List.set_cons_succ]
            refine Reg.take 15 (v := ?_) rfl (by kernel_rfl) (fun _ _ _ h => h) rfl ?_ ?_
            rotate_left
            · intro W hW
              have q := run_conv (KCut.out W (T7.out.old.trans (Below.mono hW T7.out.old.size))) cC
              go_simp
              try with_reducible rfl
            try simp only [Act.put, List.setIfInBounds_toArray, List.set_cons_zero, List.set_cons_succ]
            refine Reg.do_ 10 rfl (by kernel_rfl) rfl (fun K hK => ?_)
            go_simp
            refine (wbytes_any g u3 _ _ T7.out.v (HFit.out.of (by have := HYL.out; omega))).mono ?_
            rintro e w12 ⟨v12, rfl, o12, f12, b12⟩
            obtain ⟨A12, c12, rfl, s12⟩ := own_form o12
            have S12 := Lib.hid s12
            have B12 := Lib.hid b12
            clear o12 f12 s12
            refine hK.out _ _ b12 ?_
            clear hK K b12
            try simp only [Act.put, List.setIfInBounds_toArray, List.set_cons_zero, List.set_cons_succ]
            refine Reg.take 11 (v := ?_) rfl (by kernel_rfl) (fun _ _ _ h => h) rfl ?_ ?_
            rotate_left
            · intro W hW
              have q := run_conv (S12.out.below hW.all (Nat.le_refl _)) c12
              go_simp
              try with_reducible rfl
            try simp only [Act.put, List.setIfInBounds_toArray, List.set_cons_zero, List.set_cons_succ]
            refine Reg.take 16 (v := ?_) rfl (by kernel_rfl) (fun _ _ _ h => h) rfl ?_ ?_
            rotate_left
            · intro W hW
              go_simp
              try with_reducible rfl
            try simp only [Act.put, List.setIfInBounds_toArray, List.set_cons_zero, List.set_cons_succ]
            refine Reg.take 17 (v := ?_) rfl (by kernel_rfl) (fun _ _ _ h => h) rfl ?_ ?_
            rotate_left
            · intro W hW
              go_simp
              try with_reducible rfl
            try simp only [Act.put, List.setIfInBounds_toArray, List.set_cons_zero, List.set_cons_succ]
            refine Reg.done (by kernel_rfl) ?_
            go_wp2_with fail
            go_roundw
            case rel => exact ⟨k + 1, s2, u3, by omega, by go_num, ⟨by rw [HYs.out]; exact T7.out.further B12.out, HE.out⟩⟩
            case measure => simp [intOf]; omega
          · have t5 : ((rU bs st).2.err != 0) = true := by simp [he]
            have h0l : (0 : Int) ≤ (left : Int) := by omega
            have B4 := Lib.hid T4.out.old
            clear he
            go_wp2_with fail
            refine (awake8 _).mono ?_
            rintro e w7 ⟨rfl, b7⟩
            have B7 := Lib.hid (B4.out.trans (b7.mono B4.out.size))
            clear b7
            go_wp2_with fail
            go_ret
            exact ⟨rfl, B7.out⟩
        · have t2 : (kind == 2) = false := by simpa using k2
          by_cases k3 : kind = 3
          · have t3 : (kind == 3) = true := by simp [k3]
            have HKd : Hid (kind = 3) := k3
            clear k1 k2 k3
            go_wp2_with fail
            have T2 := Lib.hid (T1.out.further ((Below.refl _ _).alloc (Nat.le_refl _) (.cells #[.int .i64 kind, .int .i64 0, .int .u64 0, .string ⟨#[]⟩, .slice none 0 0] 33)))
            refine (rtext_any p AR bs most st _ T2.out.r HI.out).mono ?_
            rintro e w9 ⟨rfl, r9, f9⟩
            have T3 := Lib.hid (T2.out.read f9 r9)
            have KX := Lib.hid ((Blk.new w8 33 #[.int .i64 kind, .int .i64 0, .int .u64 0, .string ⟨#[]⟩, .slice none 0 0]).frm f9 (fun e => by have := HPX.out; omega))
            have q13 : w9.cell? ⟨w8.heap.size, 3, none⟩ = some (.string ⟨#[]⟩) := KX.out.cell 3
            have f13 := KX.out.frozen 3
            clear r9 f9 T2
            go_wp2_with fail
            have KB := Lib.hid (KX.out.put 3 (.string ⟨(rT bs most st).1.toArray⟩))
            simp only [List.setIfInBounds_toArray, List.set_cons_zero, List.set_cons_succ] at KB
            have T4 := Lib.hid (T3.out.other ((Frm.refl (· = w8.heap.size) w9).setCell (p := ⟨w8.heap.size, 3, none⟩) (fun _ => rfl) (.string ⟨(rT bs most st).1.toArray⟩)) HNX1.out HNX2.out T1.out.old.size)
            obtain ⟨W, hW⟩ : ∃ W, W = w9.setCell ⟨w8.heap.size, 3, none⟩ (.string ⟨(rT bs most st).1.toArray⟩) := ⟨_, rfl⟩
            rw [← hW] at T4 KB ⊢
            clear hW T3 KX
            refine (rerr_any p AR bs _ _ T4.out.r).mono ?_
            rintro e w' ⟨rfl, rfl⟩
            by_cases he : (rT bs most st).2.err = 0
            · have HEn : Hid (bs.take (rT bs most st).2.pos = bs.take st.pos ++ encs [(⟨kind, 0, 0, ⟨(rT bs most st).1.toArray⟩, []⟩ : It)]) := by show _ = _; rw [encs_one, enc3 HKd.out]; exact (rT_back he).2
              have HE := Lib.hid he
              have t5 : ((rT bs most st).2.err != 0) = false := by simp [he]
              have HPos := Lib.hid (left_pos T4.out.r.ok he)
              have HP2 : Hid ((rT bs most st).2.pos ≤ m) := by have := T4.out.r.ok.1; have := LM.out; show _ ≤ _; omega
              rw [LM.out] at HPos
              clear he
              have l0 := run_loadRow (P := Try.prog) KB.out Try.underlying33 item_size9
              go_wp2_with fail
              clear l0 t5
              obtain ⟨W2, hW2⟩ : ∃ W2, W2 = W.alloc (.cells #[.int .i64 kind, .int .i64 0, .int .u64 0, .string ⟨(rT bs most st).1.toArray⟩, .slice none 0 0] 33) := ⟨_, rfl⟩
              have T5 : Hid (Onc w W2 p AR g u bs (rT bs most st).2 (bs.take st.pos)) := by rw [hW2]; exact T4.out.further ((Below.refl _ _).alloc (Nat.le_refl _) _)
              have KY : Hid (Blk W2 W.heap.size 33 #[.int .i64 kind, .int .i64 0, .int .u64 0, .string ⟨(rT bs most st).1.toArray⟩, .slice none 0 0]) := by rw [hW2]; exact Blk.new _ _ _
              have HSz : Hid (W2.heap.size = W.heap.size + 1) := by show _ = _; rw [hW2]; simp
              rw [← hW2]
              clear hW2
              have HIt : Hid (ItSl W2 (fun k => k < W2.heap.size ∧ ¬ own g u k) (some ⟨W.heap.size, 0, none⟩) [(⟨kind, 0, 0, ⟨(rT bs most st).1.toArray⟩, []⟩ : It)]) := one_item KY.out ⟨by have := HSz.out; omega, fun ho => Nat.lt_irrefl _ (T4.out.v.lt ho)⟩ (⟨none, 0, rfl, Sl.nil_ _ _ _, fun h0 => absurd h0 (by simp), i64_zero, n64_zero, (fun y hy => by cases hy), by show 0 ≤ _; decide, by have h1 := (rT_fine most HOK.out).2.1; have := LM.out; show (rT bs most st).1.length ≤ _; omega⟩) rfl
              have HMid : Hid (∀ x ∈ [(⟨kind, 0, 0, ⟨(rT bs most st).1.toArray⟩, []⟩ : It)], x.mid) := fun x hx => by rw [List.mem_singleton] at hx; rw [hx]; exact ⟨by have h1 := (rT_fine most HOK.out).2.1; have := LM.out; show (rT bs most st).1.length ≤ _; omega, by show 0 ≤ _; decide⟩
              refine (write_big g u (bs.take st.pos) [(⟨kind, 0, 0, ⟨(rT bs most st).1.toArray⟩, []⟩ : It)] _ _ 1 _ _ T5.out.v rfl (by omega) HIt.out HMid.out (fun k hk => hk) (HFit.out.of (by rw [List.length_take]; have := LM.out; omega))).mono ?_
              rintro e w10 ⟨rfl, u3, hw10, ht10⟩
              rw [← HEn.out] at hw10
              have T6 := Lib.hid (T5.out.wrote ht10 hw10)
              clear hw10 ht10 HIt HMid KY T5 T4 KB HEn
              generalize (rT bs most st).2 = s2 at *
              go_wp2_with fail
              refine (rleft_any p AR bs s2 _ T6.out.r).mono ?_
              rintro e w11 ⟨rfl, q11, hq11⟩
              have T7 : Hid (Onc w w11 p AR g u3 bs s2 (bs.take s2.pos)) := by rw [hq11]; exact T6.out.further (below_of_drewN _ _ _)
              clear hq11 T6
              have hleft : (rLeft bs s2 : Int) ≤ (m : Int) := by have := HPos.out; omega
              have hleft0 : (0 : Int) ≤ (rLeft bs s2 : Int) := by omega
              generalize rLeft bs s2 = lf at *
              go_wp2_with fail
              rw [HPos.out]
              obtain ⟨AC, cC, hcut, hco⟩ := run_cut_to (P := Try.prog) (size := 1) Try.underlying38 (by kernel_rfl) A m c s2.pos (by have := HP2.out; omega)
              have HCut := Lib.hid hcut
              have KCut : Hid (∀ W, Below w.heap.size w W → Sl W 1 AC s2.pos (byts (bs.take s2.pos))) := fun W hb => cut_bytes hco (HS.out.below hb (Nat.le_refl _)) HP2.out
              have T7 := Lib.hid (T7.out.further ((Below.refl _ _).drew))
              have t8 : decide ((s2.pos : Int) < 0) = false := by simp
              have t9 : decide (m < s2.pos) = false := by have := HP2.out; simp; omega
              clear hcut hco HPos hleft hleft0 HP2
              have HYL : Hid ((bs.take s2.pos).length ≤ 20000) := by rw [List.length_take]; have := LM.out; show _ ≤ _; omega
              generalize hys : bs.take s2.pos = ys at *
              have HYs := Lib.hid hys
              clear hys
              refine Reg.start (by kernel_rfl) ?_
              refine Reg.take 0 (v := ?_) rfl (by kernel_rfl) (fun _ _ _ h => h) rfl ?_ ?_
              rotate_left
              · intro W hW
                go_simp
                try with_reducible rfl
              try simp only [Act.put, List.setIfInBounds_toArray, List.set_cons_zero, List.set_cons_succ]
              refine Reg.take 1 (v := ?_) rfl (by kernel_rfl) (fun _ _ _ h => h) rfl ?_ ?_
              rotate_left
              · intro W hW
                go_simp
                try with_reducible rfl
              try simp only [Act.put, List.setIfInBounds_toArray, List.set_cons_zero, List.set_cons_succ]
              refine Reg.take 2 (v := ?_) rfl (by kernel_rfl) (fun _ _ _ h => h) rfl ?_ ?_
              rotate_left
              · intro W hW
                go_simp
                try with_reducible rfl
              try simp only [Act.put, List.setIfInBounds_toArray, List.set_cons_zero, List.set_cons_succ]
              refine Reg.take 3 (v := ?_) rfl (by kernel_rfl) (fun _ _ _ h => h) rfl ?_ ?_
              rotate_left
              · intro W hW
                go_simp
                try with_reducible rfl
              try simp only [Act.put, List.setIfInBounds_toArray, List.set_cons_zero, List.set_cons_succ]
              refine Reg.take 4 (v := ?_) rfl (by kernel_rfl) (fun _ _ _ h => h) rfl ?_ ?_
              rotate_left
              · intro W hW
                go_simp
                try with_reducible rfl
              try simp only [Act.put, List.setIfInBounds_toArray, List.set_cons_zero, List.set_cons_succ]
              refine Reg.take 5 (v := ?_) rfl (by kernel_rfl) (fun _ _ _ h => h) rfl ?_ ?_
              rotate_left
              · intro W hW
                go_simp
                try with_reducible rfl
              try simp only [Act.put, List.setIfInBounds_toArray, List.set_cons_zero, List.set_cons_succ]
              refine Reg.take 6 (v := ?_) rfl (by kernel_rfl) (fun _ _ _ h => h) rfl ?_ ?_
              rotate_left
              · intro W hW
                go_simp
                try with_reducible rfl
              try simp only [Act.put, List.setIfInBounds_toArray, List.set_cons_zero, List.set_cons_succ]
              refine Reg.take 7 (v := ?_) rfl (by kernel_rfl) (fun _ _ _ h => h) rfl ?_ ?_
              rotate_left
              · intro W hW
                go_simp
                try with_reducible rfl
              try simp only [Act.put, List.setIfInBounds_toArray, List.set_cons_zero, List.set_cons_succ]
              refine Reg.take 8 (v := ?_) rfl (by kernel_rfl) (fun _ _ _ h => h) rfl ?_ ?_
              rotate_left
              · intro W hW
                go_simp
                try with_reducible rfl
              try simp only [Act.put, List.setIfInBounds_toArray, List.set_cons_zero, List.set_cons_succ]
              refine Reg.take 9 (v := ?_) rfl (by kernel_rfl) (fun _ _ _ h => h) rfl ?_ ?_
              rotate_left
              · intro W hW
                go_simp
                try with_reducible rfl
              try simp only [Act.put, List.setIfInBounds_toArray, List.set_cons_zero, List.set_cons_succ]
              refine Reg.take 12 (v := ?_) rfl (by kernel_rfl) (fun _ _ _ h => h) rfl ?_ ?_
              rotate_left
              · intro W hW
                go_simp
                try with_reducible rfl
              try simp only [Act.put, List.setIfInBounds_toArray, List.set_cons_zero, List.set_cons_succ]
              refine Reg.take 13 (v := ?_) rfl (by kernel_rfl) (fun _ _ _ h => h) rfl ?_ ?_
              rotate_left
              · intro W hW
                go_simp
                try with_reducible rfl
              try simp only [Act.put, List.setIfInBounds_toArray, List.set_cons_zero, List.set_cons_succ]
              refine Reg.take 14 (v := ?_) rfl (by kernel_rfl) (fun _ _ _ h => h) rfl ?_ ?_
              rotate_left
              · intro W hW
                have q := HCut.out W
                go_simp
                try with_reducible rfl
              try simp only [Act.put, List.setIfInBounds_toArray, List.set_cons_zero, List.set_cons_succ]
              refine Reg.take 15 (v := ?_) rfl (by kernel_rfl) (fun _ _ _ h => h) rfl ?_ ?_
              rotate_left
              · intro W hW
                have q := run_conv (KCut.out W (T7.out.old.trans (Below.mono hW T7.out.old.size))) cC
                go_simp
                try with_reducible rfl
              try simp only [Act.put, List.setIfInBounds_toArray, List.set_cons_zero, List.set_cons_succ]
              refine Reg.do_ 10 rfl (by kernel_rfl) rfl (fun K hK => ?_)
              go_simp
              refine (wbytes_any g u3 _ _ T7.out.v (HFit.out.of (by have := HYL.out; omega))).mono ?_
              rintro e w12 ⟨v12, rfl, o12, f12, b12⟩
              obtain ⟨A12, c12, rfl, s12⟩ := own_form o12
              have S12 := Lib.hid s12
              have B12 := Lib.hid b12
              clear o12 f12 s12
              refine hK.out _ _ b12 ?_
              clear hK K b12
              try simp only [Act.put, List.setIfInBounds_toArray, List.set_cons_zero, List.set_cons_succ]
              refine Reg.take 11 (v := ?_) rfl (by kernel_rfl) (fun _ _ _ h => h) rfl ?_ ?_
              rotate_left
              · intro W hW
                have q := run_conv (S12.out.below hW.all (Nat.le_refl _)) c12
                go_simp
                try with_reducible rfl
              try simp only [Act.put, List.setIfInBounds_toArray, List.set_cons_zero, List.set_cons_succ]
              refine Reg.take 16 (v := ?_) rfl (by kernel_rfl) (fun _ _ _ h => h) rfl ?_ ?_
              rotate_left
              · intro W hW
                go_simp
                try with_reducible rfl
              try simp only [Act.put, List.setIfInBounds_toArray, List.set_cons_zero, List.set_cons_succ]
              refine Reg.take 17 (v := ?_) rfl (by kernel_rfl) (fun _ _ _ h => h) rfl ?_ ?_
              rotate_left
              · intro W hW
                go_simp
                try with_reducible rfl
              try simp only [Act.put, List.setIfInBounds_toArray, List.set_cons_zero, List.set_cons_succ]
              refine Reg.done (by kernel_rfl) ?_
              go_wp2_with fail
              go_roundw
              case rel => exact ⟨k + 1, s2, u3, by omega, by go_num, ⟨by rw [HYs.out]; exact T7.out.further B12.out, HE.out⟩⟩
              case measure => simp [intOf]; omega
            · have t5 : ((rT bs most st).2.err != 0) = true := by simp [he]
              have h0l : (0 : Int) ≤ (left : Int) := by omega
              have B4 := Lib.hid T4.out.old
              clear he
              go_wp2_with fail
              refine (awake8 _).mono ?_
              rintro e w7 ⟨rfl, b7⟩
              have B7 := Lib.hid (B4.out.trans (b7.mono B4.out.size))
              clear b7
              go_wp2_with fail
              go_ret
              exact ⟨rfl, B7.out⟩
          · have t3 : (kind == 3) = false := by simpa using k3
            have HKd : Hid (kind ≠ 1 ∧ kind ≠ 2 ∧ kind ≠ 3) := ⟨k1, k2, k3⟩
            clear k1 k2 k3
            go_wp2_with fail
            have T2 := Lib.hid (T1.out.further ((Below.refl _ _).alloc (Nat.le_refl _) (.cells #[.int .i64 kind, .int .i64 0, .int .u64 0, .string ⟨#[]⟩, .slice none 0 0] 33)))
            refine (rints_any p AR bs most st _ T2.out.r HI.out).mono ?_
            rintro e w9 ⟨v9, rfl, o9, fr9, r9, f9⟩
            obtain ⟨A5, c5, rfl, s5⟩ := own_form o9
            have HSL := Lib.hid s5
            have HLB : Hid (∀ a, A5 = some a → (w8.alloc (.cells #[.int .i64 kind, .int .i64 0, .int .u64 0, .string ⟨#[]⟩, .slice none 0 0] 33)).heap.size ≤ a.block) := fun a ha => fr9 a.block (by rw [ha]; rfl)
            have HLt0 : Hid (∀ a, A5 = some a → a.block < w9.heap.size) := fun a ha => (o9.lt a.block (by rw [ha]; rfl)).2
            clear o9 fr9 s5
            have T3 := Lib.hid (T2.out.read f9 r9)
            have KX := Lib.hid ((Blk.new w8 33 #[.int .i64 kind, .int .i64 0, .int .u64 0, .string ⟨#[]⟩, .slice none 0 0]).frm f9 (fun e => by have := HPX.out; omega))
            have q14 : w9.cell? ⟨w8.heap.size, 4, none⟩ = some (.slice none 0 0) := KX.out.cell 4
            have f14 := KX.out.frozen 4
            clear r9 f9 T2
            go_wp2_with fail
            have HLt : Hid (∀ a, A5 = some a → a.block < (w9.setCell ⟨w8.heap.size, 4, none⟩ (.slice A5 (rIs bs most st).1.length c5)).heap.size) := fun a ha => by rw [size_setCell]; exact HLt0.out a ha
            have KB := Lib.hid (KX.out.put 4 (.slice A5 (rIs bs most st).1.length c5))
            simp only [List.setIfInBounds_toArray, List.set_cons_zero, List.set_cons_succ] at KB
            have T4 := Lib.hid (T3.out.other ((Frm.refl (· = w8.heap.size) w9).setCell (p := ⟨w8.heap.size, 4, none⟩) (fun _ => rfl) (.slice A5 (rIs bs most st).1.length c5)) HNX1.out HNX2.out T1.out.old.size)
            have S5 := Lib.hid (HSL.out.frm ((Frm.refl (· = w8.heap.size) w9).setCell (p := ⟨w8.heap.size, 4, none⟩) (fun _ => rfl) (.slice A5 (rIs bs most st).1.length c5)) (fun a ha e => by have h1 := HLB.out a ha; simp at h1; omega))
            obtain ⟨W, hW⟩ : ∃ W, W = w9.setCell ⟨w8.heap.size, 4, none⟩ (.slice A5 (rIs bs most st).1.length c5) := ⟨_, rfl⟩
            rw [← hW] at T4 KB S5 HLt ⊢
            clear hW T3 KX
            refine (rerr_any p AR bs _ _ T4.out.r).mono ?_
            rintro e w' ⟨rfl, rfl⟩
            by_cases he : (rIs bs most st).2.err = 0
            · have HEn : Hid (bs.take (rIs bs most st).2.pos = bs.take st.pos ++ encs [(⟨kind, 0, 0, ⟨#[]⟩, (rIs bs most st).1⟩ : It)]) := by show _ = _; rw [encs_one, enc4 HKd.out.1 HKd.out.2.1 HKd.out.2.2]; exact (rIs_back HOK.out he).2
              have HE := Lib.hid he
              have t5 : ((rIs bs most st).2.err != 0) = false := by simp [he]
              have HPos := Lib.hid (left_pos T4.out.r.ok he)
              have HP2 : Hid ((rIs bs most st).2.pos ≤ m) := by have := T4.out.r.ok.1; have := LM.out; show _ ≤ _; omega
              rw [LM.out] at HPos
              clear he
              have l0 := run_loadRow (P := Try.prog) KB.out Try.underlying33 item_size9
              go_wp2_with fail
              clear l0 t5
              obtain ⟨W2, hW2⟩ : ∃ W2, W2 = W.alloc (.cells #[.int .i64 kind, .int .i64 0, .int .u64 0, .string ⟨#[]⟩, .slice A5 (rIs bs most st).1.length c5] 33) := ⟨_, rfl⟩
              have T5 : Hid (Onc w W2 p AR g u bs (rIs bs most st).2 (bs.take st.pos)) := by rw [hW2]; exact T4.out.further ((Below.refl _ _).alloc (Nat.le_refl _) _)
              have KY : Hid (Blk W2 W.heap.size 33 #[.int .i64 kind, .int .i64 0, .int .u64 0, .string ⟨#[]⟩, .slice A5 (rIs bs most st).1.length c5]) := by rw [hW2]; exact Blk.new _ _ _
              have S6 : Hid (Sl W2 1 A5 (rIs bs most st).1.length (ints (rIs bs most st).1)) := by rw [hW2]; exact S5.out.alloc _
              have HSz : Hid (W2.heap.size = W.heap.size + 1) := by show _ = _; rw [hW2]; simp
              rw [← hW2]
              clear hW2
              have HIt : Hid (ItSl W2 (fun k => k < W2.heap.size ∧ ¬ own g u k) (some ⟨W.heap.size, 0, none⟩) [(⟨kind, 0, 0, ⟨#[]⟩, (rIs bs most st).1⟩ : It)]) := one_item KY.out ⟨by have := HSz.out; omega, fun ho => Nat.lt_irrefl _ (T4.out.v.lt ho)⟩ (⟨A5, c5, rfl, S6.out, fun _ a ha => ⟨by have h1 := HLt.out a ha; have := HSz.out; omega, fun ho => by have h1 := HLB.out a ha; have h2 := T1.out.v.lt ho; simp at h1; omega⟩, i64_zero, n64_zero, (rIs_fine most HOK.out).2.2.2.1, by have h1 := (rIs_fine most HOK.out).2.2.1; have := LM.out; show (rIs bs most st).1.length ≤ _; omega, by show 0 ≤ _; decide⟩) rfl
              have HMid : Hid (∀ x ∈ [(⟨kind, 0, 0, ⟨#[]⟩, (rIs bs most st).1⟩ : It)], x.mid) := fun x hx => by rw [List.mem_singleton] at hx; rw [hx]; exact ⟨by show 0 ≤ _; decide, by have h1 := (rIs_fine most HOK.out).2.2.1; have := LM.out; show (rIs bs most st).1.length ≤ _; omega⟩
              refine (write_big g u (bs.take st.pos) [(⟨kind, 0, 0, ⟨#[]⟩, (rIs bs most st).1⟩ : It)] _ _ 1 _ _ T5.out.v rfl (by omega) HIt.out HMid.out (fun k hk => hk) (HFit.out.of (by rw [List.length_take]; have := LM.out; omega))).mono ?_
              rintro e w10 ⟨rfl, u3, hw10, ht10⟩
              rw [← HEn.out] at hw10
              have T6 := Lib.hid (T5.out.wrote ht10 hw10)
              clear hw10 ht10 HIt HMid KY T5 T4 KB HEn S5 S6
              generalize (rIs bs most st).2 = s2 at *
              go_wp2_with fail
              refine (rleft_any p AR bs s2 _ T6.out.r).mono ?_
              rintro e w11 ⟨rfl, q11, hq11⟩
              have T7 : Hid (Onc w w11 p AR g u3 bs s2 (bs.take s2.pos)) := by rw [hq11]; exact T6.out.further (below_of_drewN _ _ _)
              clear hq11 T6
              have hleft : (rLeft bs s2 : Int) ≤ (m : Int) := by have := HPos.out; omega
              have hleft0 : (0 : Int) ≤ (rLeft bs s2 : Int) := by omega
              generalize rLeft bs s2 = lf at *
              go_wp2_with fail
              rw [HPos.out]
              obtain ⟨AC, cC, hcut, hco⟩ := run_cut_to (P := Try.prog) (size := 1) Try.underlying38 (by kernel_rfl) A m c s2.pos (by have := HP2.out; omega)
              have HCut := Lib.hid hcut
              have KCut : Hid (∀ W, Below w.heap.size w W → Sl W 1 AC s2.pos (byts (bs.take s2.pos))) := fun W hb => cut_bytes hco (HS.out.below hb (Nat.le_refl _)) HP2.out
              have T7 := Lib.hid (T7.out.further ((Below.refl _ _).drew))
              have t8 : decide ((s2.pos : Int) < 0) = false := by simp
              have t9 : decide (m < s2.pos) = false := by have := HP2.out; simp; omega
              clear hcut hco HPos hleft hleft0 HP2
              have HYL : Hid ((bs.take s2.pos).length ≤ 20000) := by rw [List.length_take]; have := LM.out; show _ ≤ _; omega
              generalize hys : bs.take s2.pos = ys at *
              have HYs := Lib.hid hys
              clear hys
              refine Reg.start (by kernel_rfl) ?_
              refine Reg.take 0 (v := ?_) rfl (by kernel_rfl) (fun _ _ _ h => h) rfl ?_ ?_
              rotate_left
              · intro W hW
                go_simp
                try with_reducible rfl
              try simp only [Act.put, List.setIfInBounds_toArray, List.set_cons_zero, List.set_cons_succ]
              refine Reg.take 1 (v := ?_) rfl (by kernel_rfl) (fun _ _ _ h => h) rfl ?_ ?_
              rotate_left
              · intro W hW
                go_simp
                try with_reducible rfl
              try simp only [Act.put, List.setIfInBounds_toArray, List.set_cons_zero, List.set_cons_succ]
              refine Reg.take 2 (v := ?_) rfl (by kernel_rfl) (fun _ _ _ h => h) rfl ?_ ?_
              rotate_left
              · intro W hW
                go_simp
                try with_reducible rfl
              try simp only [Act.put, List.setIfInBounds_toArray, List.set_cons_zero, List.set_cons_succ]
              refine Reg.take 3 (v := ?_) rfl (by kernel_rfl) (fun _ _ _ h => h) rfl ?_ ?_
              rotate_left
              · intro W hW
                go_simp
                try with_reducible rfl
              try simp only [Act.put, List.setIfInBounds_toArray, List.set_cons_zero, List.set_cons_succ]
              refine Reg.take 4 (v := ?_) rfl (by kernel_rfl) (fun _ _ _ h => h) rfl ?_ ?_
              rotate_left
              · intro W hW
                go_simp
                try with_reducible rfl
              try simp only [Act.put, List.setIfInBounds_toArray, List.set_cons_zero, List.set_cons_succ]
              refine Reg.take 5 (v := ?_) rfl (by kernel_rfl) (fun _ _ _ h => h) rfl ?_ ?_
              rotate_left
              · intro W hW
                go_simp
                try with_reducible rfl
              try simp only [Act.put, List.setIfInBounds_toArray, List.set_cons_zero, List.set_cons_succ]
              refine Reg.take 6 (v := ?_) rfl (by kernel_rfl) (fun _ _ _ h => h) rfl ?_ ?_
              rotate_left
              · intro W hW
                go_simp
                try with_reducible rfl
              try simp only [Act.put, List.setIfInBounds_toArray, List.set_cons_zero, List.set_cons_succ]
              refine Reg.take 7 (v := ?_) rfl (by kernel_rfl) (fun _ _ _ h => h) rfl ?_ ?_
              rotate_left
              · intro W hW
                go_simp
                try with_reducible rfl
              try simp only [Act.put, List.setIfInBounds_toArray, List.set_cons_zero, List.set_cons_succ]
              refine Reg.take 8 (v := ?_) rfl (by kernel_rfl) (fun _ _ _ h => h) rfl ?_ ?_
              rotate_left
              · intro W hW
                go_simp
                try with_reducible rfl
              try simp only [Act.put, List.setIfInBounds_toArray, List.set_cons_zero, List.set_cons_succ]
              refine Reg.take 9 (v := ?_) rfl (by kernel_rfl) (fun _ _ _ h => h) rfl ?_ ?_
              rotate_left
              · intro W hW
                go_simp
                try with_reducible rfl
              try simp only [Act.put, List.setIfInBounds_toArray, List.set_cons_zero, List.set_cons_succ]
              refine Reg.take 12 (v := ?_) rfl (by kernel_rfl) (fun _ _ _ h => h) rfl ?_ ?_
              rotate_left
              · intro W hW
                go_simp
                try with_reducible rfl
              try simp only [Act.put, List.setIfInBounds_toArray, List.set_cons_zero, List.set_cons_succ]
              refine Reg.take 13 (v := ?_) rfl (by kernel_rfl) (fun _ _ _ h => h) rfl ?_ ?_
              rotate_left
              · intro W hW
                go_simp
                try with_reducible rfl
              try simp only [Act.put, List.setIfInBounds_toArray, List.set_cons_zero, List.set_cons_succ]
              refine Reg.take 14 (v := ?_) rfl (by kernel_rfl) (fun _ _ _ h => h) rfl ?_ ?_
              rotate_left
              · intro W hW
                have q := HCut.out W
                go_simp
                try with_reducible rfl
              try simp only [Act.put, List.setIfInBounds_toArray, List.set_cons_zero, List.set_cons_succ]
              refine Reg.take 15 (v := ?_) rfl (by kernel_rfl) (fun _ _ _ h => h) rfl ?_ ?_
              rotate_left
              · intro W hW
                have q := run_conv (KCut.out W (T7.out.old.trans (Below.mono hW T7.out.old.size))) cC
                go_simp
                try with_reducible rfl
              try simp only [Act.put, List.setIfInBounds_toArray, List.set_cons_zero, List.set_cons_succ]
              refine Reg.do_ 10 rfl (by kernel_rfl) rfl (fun K hK => ?_)
              go_simp
              refine (wbytes_any g u3 _ _ T7.out.v (HFit.out.of (by have := HYL.out; omega))).mono ?_
              rintro e w12 ⟨v12, rfl, o12, f12, b12⟩
              obtain ⟨A12, c12, rfl, s12⟩ := own_form o12
              have S12 := Lib.hid s12
              have B12 := Lib.hid b12
              clear o12 f12 s12
              refine hK.out _ _ b12 ?_
              clear hK K b12
              try simp only [Act.put, List.setIfInBounds_toArray, List.set_cons_zero, List.set_cons_succ]
              refine Reg.take 11 (v := ?_) rfl (by kernel_rfl) (fun _ _ _ h => h) rfl ?_ ?_
              rotate_left
              · intro W hW
                have q := run_conv (S12.out.below hW.all (Nat.le_refl _)) c12
                go_simp
                try with_reducible rfl
              try simp only [Act.put, List.setIfInBounds_toArray, List.set_cons_zero, List.set_cons_succ]
              refine Reg.take 16 (v := ?_) rfl (by kernel_rfl) (fun _ _ _ h => h) rfl ?_ ?_
              rotate_left
              · intro W hW
                go_simp
                try with_reducible rfl
              try simp only [Act.put, List.setIfInBounds_toArray, List.set_cons_zero, List.set_cons_succ]
              refine Reg.take 17 (v := ?_) rfl (by kernel_rfl) (fun _ _ _ h => h) rfl ?_ ?_
              rotate_left
              · intro W hW
                go_simp
                try with_reducible rfl
              try simp only [Act.put, List.setIfInBounds_toArray, List.set_cons_zero, List.set_cons_succ]
              refine Reg.done (by kernel_rfl) ?_
              go_wp2_with fail
              go_roundw
              case rel => exact ⟨k + 1, s2, u3, by omega, by go_num, ⟨by rw [HYs.out]; exact T7.out.further B12.out, HE.out⟩⟩
              case measure => simp [intOf]; omega
            · have t5 : ((rIs bs most st).2.err != 0) = true := by simp [he]
              have h0l : (0 : Int) ≤ (left : Int) := by omega
              have B4 := Lib.hid T4.out.old
              clear he
              go_wp2_with fail
              refine (awake8 _).mono ?_
              rintro e w7 ⟨rfl, b7⟩
              have B7 := Lib.hid (B4.out.trans (b7.mono B4.out.size))
              clear b7
              go_wp2_with fail
              go_ret
              exact ⟨rfl, B7.out⟩
    · obtain rfl : k = n := by omega
      have B0 := Lib.hid HR.out.1.old
      go_wp2_with fail
      refine (awake8 _).mono ?_
      rintro e w7 ⟨rfl, b7⟩
      have B7 := Lib.hid (B0.out.trans (b7.mono B0.out.size))
      clear b7
      go_wp2_with fail
      go_ret
      exact ⟨rfl, B7.out⟩

set_option maxRecDepth 100000 in
set_option maxHeartbeats 2000000 in
theorem once_walk (bs : List UInt8) (xs : List (Int × Int)) (A AX : Option Addr) (m c n cx : Nat) (w : World) (hs : Sl w 1 A m (byts bs)) (hm : m ≤ 9223372036854775807) (hc : m ≤ c) (hn : xs.length = n) (hn2 : n ≤ 9223372036854775807) (hx : AskSl w AX xs) :
    Calls Try.prog 6 #[.slice A m c, .slice AX n cx] w fun e w' => e = .returned (.bool true) ∧ Below w.heap.size w w' := by
  by_cases h1 : m ≤ 20000
  · by_cases h2 : n ≤ 200
    · exact once_few bs xs A AX m c n cx w hs h1 hc hn h2 hx
    · have hmi : (m : Int) ≤ 20000 := by omega
      have hni : (200 : Int) < (n : Int) := by omega
      clear hs hx hn hc
      go_enter Try.func6, Try.ntmps6
      go_wp2_with fail
      refine (awake8 _).mono ?_
      rintro e w1 ⟨rfl, b1⟩
      have B1 := Lib.hid b1
      clear b1
      go_wp2_with fail
      go_ret
      exact ⟨rfl, B1.out⟩
  · have hmi : (20000 : Int) < (m : Int) := by omega
    clear hs hx hn hc
    go_enter Try.func6, Try.ntmps6
    go_wp2_with fail
    refine (awake8 _).mono ?_
    rintro e w1 ⟨rfl, b1⟩
    have B1 := Lib.hid b1
    clear b1
    go_wp2_with fail
    go_ret
    exact ⟨rfl, B1.out⟩
end Go.Proofs.Yteikdmkplbbckaa.Wr
