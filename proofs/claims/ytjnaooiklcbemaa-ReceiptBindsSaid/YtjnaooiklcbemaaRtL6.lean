/-
  The walk of ReceiptBinds. Conditions: numbers of their kinds.
-/
import Derived.Test.YtjnaooiklcbemaaRtAwake
import Derived.Test.YtjnaooiklcbemaaReg
namespace Go.Proofs.Ytjnaooiklcbemaa.Rt
open Go.RowKit Go.Proofs.Ytjnaooiklcbemaa.Mem Go.Proofs.Ytjnaooiklcbemaa.Wr Go.Proofs.Ytjnaooiklcbemaa.Dg
attribute [local go_sem ↓] exec_load_rc exec_store_rc
set_option maxRecDepth 100000 in
set_option maxHeartbeats 4000000 in
theorem binds_walk (key : Int) (a b : Rc) (w : World) (hk : U64 key) (hoa : a.ok) (hob : b.ok) :
    Calls Try.prog 9 #[.int .u64 key, .agg a.cells, .agg b.cells] w fun e w' => e = .returned (.bool true) ∧ Below w.heap.size w w' := by
  obtain ⟨ca, HA⟩ : ∃ ca, Hid (ca = a.cells) := ⟨_, rfl⟩
  obtain ⟨cb, HB⟩ : ∃ cb, Hid (cb = b.cells) := ⟨_, rfl⟩
  have HA7 : Hid (ca.size = 7) := by rw [HA.out]; rfl
  have HB7 : Hid (cb.size = 7) := by rw [HB.out]; rfl
  have SA : Hid (∀ W, Calls Try.prog 10 #[.agg ca] W (Ret (.bool (isShort a)) W)) := fun W => by rw [HA.out]; exact short_any a W
  have SB : Hid (∀ W, Calls Try.prog 10 #[.agg cb] W (Ret (.bool (isShort b)) W)) := fun W => by rw [HB.out]; exact short_any b W
  have l0 : (loadRow 24 (.pointer (some ⟨w.heap.size, 0, none⟩))).run Try.prog ((w.alloc (.cells ca 24)).alloc (.cells cb 24)) = .ok (.agg ca) ((w.alloc (.cells ca 24)).alloc (.cells cb 24)) := load_rc (heap_alloc2_old w _ _) HA7.out
  obtain ⟨W0, hW0⟩ : ∃ W0, W0 = ((w.alloc (.cells ca 24)).alloc (.cells cb 24)) := ⟨_, rfl⟩
  cases ha : isShort a with
  | false =>
    rw [ha] at SA
    clear ha hk hoa hob
    have K4_0 : Hid (Blk W0 w.heap.size 24 ca) := by rw [hW0]; exact heap_alloc2_old w _ _
    have K5_0 : Hid (Blk W0 (w.heap.size + 1) 24 cb) := by rw [hW0]; exact heap_alloc2_new w _ _
    have BE_0 : Hid (Below w.heap.size w W0) := by rw [hW0]; exact ((Below.refl _ w).alloc (Nat.le_refl _) _).alloc (by simp) _
    have HW := Lib.hid hW0
    rw [← HA.out, ← HB.out]
    clear hW0
    go_enter Try.func9, Try.ntmps9
    go_wp2_with fail
    rw [← HW.out]
    clear l0 HW
    refine (SA.out _).mono ?_
    rintro e v1 ⟨rfl, b1⟩
    have K4_1 := Lib.hid (K4_0.out.below b1 K4_0.out.lt)
    have K5_1 := Lib.hid (K5_0.out.below b1 K5_0.out.lt)
    have BE_1 := Lib.hid (BE_0.out.trans (b1.mono BE_0.out.size))
    clear K4_0 K5_0 BE_0
    clear b1
    go_wp2_with fail
    refine (awake19 _).mono ?_
    rintro e v2 ⟨rfl, b2⟩
    have K4_2 := Lib.hid (K4_1.out.below b2 K4_1.out.lt)
    have K5_2 := Lib.hid (K5_1.out.below b2 K5_1.out.lt)
    have BE_2 := Lib.hid (BE_1.out.trans (b2.mono BE_1.out.size))
    clear K4_1 K5_1 BE_1
    clear b2
    go_wp2_with fail
    go_ret
    exact ⟨rfl, BE_2.out⟩
  | true =>
    cases hb : isShort b with
    | false =>
      rw [ha] at SA
      rw [hb] at SB
      clear ha hb hk hoa hob
      have K4_0 : Hid (Blk W0 w.heap.size 24 ca) := by rw [hW0]; exact heap_alloc2_old w _ _
      have K5_0 : Hid (Blk W0 (w.heap.size + 1) 24 cb) := by rw [hW0]; exact heap_alloc2_new w _ _
      have BE_0 : Hid (Below w.heap.size w W0) := by rw [hW0]; exact ((Below.refl _ w).alloc (Nat.le_refl _) _).alloc (by simp) _
      have HW := Lib.hid hW0
      rw [← HA.out, ← HB.out]
      clear hW0
      go_enter Try.func9, Try.ntmps9
      go_wp2_with fail
      rw [← HW.out]
      clear l0 HW
      refine (SA.out _).mono ?_
      rintro e v1 ⟨rfl, b1⟩
      have K4_1 := Lib.hid (K4_0.out.below b1 K4_0.out.lt)
      have K5_1 := Lib.hid (K5_0.out.below b1 K5_0.out.lt)
      have BE_1 := Lib.hid (BE_0.out.trans (b1.mono BE_0.out.size))
      clear K4_0 K5_0 BE_0
      clear b1
      have lb : (loadRow 24 (.pointer (some ⟨(w.heap.size + 1), 0, none⟩))).run Try.prog v1 = .ok (.agg cb) v1 := load_rc K5_1.out HB7.out
      go_wp2_with fail
      clear lb
      refine (SB.out _).mono ?_
      rintro e v2 ⟨rfl, b2⟩
      have K4_2 := Lib.hid (K4_1.out.below b2 K4_1.out.lt)
      have K5_2 := Lib.hid (K5_1.out.below b2 K5_1.out.lt)
      have BE_2 := Lib.hid (BE_1.out.trans (b2.mono BE_1.out.size))
      clear K4_1 K5_1 BE_1
      clear b2
      go_wp2_with fail
      refine (awake19 _).mono ?_
      rintro e v3 ⟨rfl, b3⟩
      have K4_3 := Lib.hid (K4_2.out.below b3 K4_2.out.lt)
      have K5_3 := Lib.hid (K5_2.out.below b3 K5_2.out.lt)
      have BE_3 := Lib.hid (BE_2.out.trans (b3.mono BE_2.out.size))
      clear K4_2 K5_2 BE_2
      clear b3
      go_wp2_with fail
      go_ret
      exact ⟨rfl, BE_3.out⟩
    | true =>
      have hfa := few_of_short ha
      have hfb := few_of_short hb
      have hla := lim_of_few hfa
      have hlb := lim_of_few hfb
      rw [ha] at SA
      rw [hb] at SB
      obtain ⟨n, hn⟩ := nat_of (signI_u64 key a)
      obtain ⟨m, hm⟩ := nat_of (signI_u64 key b)
      have hn64 : n < 18446744073709551616 := by have h1 := signI_u64 key a; rw [hn] at h1; have h2 := h1.2; omega
      have hob2 : (b.withSign n).ok := withSign_ok hob hn64
      have hlb2 : (b.withSign n).lim := withSign_lim hlb
      obtain ⟨db, HD⟩ : ∃ db, Hid (db = (b.withSign n).cells) := ⟨_, rfl⟩
      obtain ⟨da, HDA⟩ : ∃ da, Hid (da = (a.withSign 0).cells) := ⟨_, rfl⟩
      obtain ⟨dc, HDC⟩ : ∃ dc, Hid (dc = (b.withSign 0).cells) := ⟨_, rfl⟩
      have HD7 : Hid (db.size = 7) := by rw [HD.out]; rfl
      have HD1 : Hid (db.toList.all (·.oneCell') = true) := by rw [HD.out]; rfl
      have HPB : Hid (cb.setIfInBounds 6 (.int .u64 (n : Int)) = db) := by rw [HB.out, HD.out]; exact cells_sign b n
      have HPA : Hid (ca.setIfInBounds 6 (.int .u64 0) = da) := by rw [HA.out, HDA.out]; exact cells_sign a 0
      have HPC : Hid (db.setIfInBounds 6 (.int .u64 0) = dc) := by rw [HD.out, HDC.out]; exact cells_sign (b.withSign n) 0
      have H6A : Hid (ca[6]? = some (.int .u64 (a.sign : Int))) := by rw [HA.out]; rfl
      have H6B : Hid (cb[6]? = some (.int .u64 (b.sign : Int))) := by rw [HB.out]; rfl
      have H6D : Hid (db[6]? = some (.int .u64 (n : Int))) := by rw [HD.out]; rfl
      have C1 : Hid (∀ W, Calls Try.prog 12 #[.int .u64 key, .agg ca] W (Ret (.int .u64 (n : Int)) W)) := fun W => by rw [HA.out, ← hn]; exact sign_any key a W hk hla hoa
      have C4 : Hid (∀ W, Calls Try.prog 12 #[.int .u64 key, .agg db] W (Ret (.int .u64 (m : Int)) W)) := fun W => by
        have := sign_any key (b.withSign n) W hk hlb2 hob2
        rw [signI_sign, hm] at this
        rw [HD.out]
        exact this
      have C2 : Hid (∀ W, Calls Try.prog 22 #[.agg ca] W (Ret (.string ⟨a.part.toArray⟩) W)) := fun W => by rw [HA.out]; exact signedL_any a W hla hoa
      have C3 : Hid (∀ W, Calls Try.prog 22 #[.agg db] W (Ret (.string ⟨b.part.toArray⟩) W)) := fun W => by rw [HD.out]; exact signedL_any (b.withSign n) W hlb2 hob2
      have hpa := part_le hla hoa
      have hpb := part_le hlb hob
      have KX : Hid (∀ W, Calls Try.prog 23 #[.int .u64 key, .string ⟨a.part.toArray⟩] W fun e w' => e = .returned (.int .u64 (n : Int)) ∧ W = w') := fun W => by
        have := keyed_any key ⟨a.part.toArray⟩ W hk (by show a.part.length ≤ _; unfold maxLen; omega)
        rw [show keyedI key (⟨a.part.toArray⟩ : ByteArray).data.toList = (n : Int) from hn] at this
        exact this
      have KY : Hid (∀ W, Calls Try.prog 23 #[.int .u64 key, .string ⟨b.part.toArray⟩] W fun e w' => e = .returned (.int .u64 (m : Int)) ∧ W = w') := fun W => by
        have := keyed_any key ⟨b.part.toArray⟩ W hk (by show b.part.length ≤ _; unfold maxLen; omega)
        rw [show keyedI key (⟨b.part.toArray⟩ : ByteArray).data.toList = (m : Int) from hm] at this
        exact this
      have MX : Hid (∀ W, Calls Try.prog 24 #[.string ⟨a.part.toArray⟩] W fun e w' => e = .returned (.int .u64 (sumI a.part)) ∧ W = w') := fun W => sum_any ⟨a.part.toArray⟩ W (by show a.part.length ≤ _; unfold maxLen; omega)
      have MY : Hid (∀ W, Calls Try.prog 24 #[.string ⟨b.part.toArray⟩] W fun e w' => e = .returned (.int .u64 (sumI b.part)) ∧ W = w') := fun W => sum_any ⟨b.part.toArray⟩ W (by show b.part.length ≤ _; unfold maxLen; omega)
      have hver : verI key (b.withSign n) = if sumI a.part = sumI b.part then 0 else 15 := by
        have h1 := keyed_text key a.part b.part
        unfold verI
        rw [signI_sign]
        have e1 : (((b.withSign n).sign : Nat) : Int) = a.signI key := hn.symm
        rw [e1]
        by_cases h : sumI a.part = sumI b.part
        · rw [if_pos h]; exact if_pos (h1.2 h)
        · rw [if_neg h]; exact if_neg (fun g => h (h1.1 g))
      have C5 : Hid (∀ W, Calls Try.prog 14 #[.int .u64 key, .agg db] W (Ret (.int .i64 (if sumI a.part = sumI b.part then 0 else 15)) W)) := fun W => by rw [HD.out, ← hver]; exact verify_any key (b.withSign n) W hk hlb2 hob2
      have hsame : sameR (a.withSign 0) (b.withSign 0) = true ↔ a.part = b.part := by
        rw [sameR_iff]
        constructor
        · intro h
          have := congrArg Rc.part h
          exact this
        · intro h
          obtain ⟨e1, e2, e3, e4, e5, e6⟩ := part_inj hfa hfb hoa hob h
          unfold Rc.withSign
          rw [e1, e2, e3, e4, e5, e6]
      have HEQ : Hid (∀ W, (binOp .eql 24 (.agg da) (.agg dc)).run Try.prog W = .ok (.bool (sameR (a.withSign 0) (b.withSign 0))) W) := by rw [HDA.out, HDC.out]; exact fun W => run_rc_eql _ _ W
      have hstr : (a.part.toArray.toList == b.part.toArray.toList) = decide (a.part = b.part) := by
        rw [Bool.eq_iff_iff]
        simp
      have HFIN : Hid (∃ (q1 q2 : Bool), (if sumI a.part = sumI b.part then (0 : Int) else 15) = (if q1 = true then 0 else 15) ∧ (sumI a.part == sumI b.part) = q1 ∧ sameR (a.withSign 0) (b.withSign 0) = q2 ∧ ((⟨a.part.toArray⟩ : ByteArray).toList == (⟨b.part.toArray⟩ : ByteArray).toList) = q2) := by
        refine ⟨decide (sumI a.part = sumI b.part), decide (a.part = b.part), ?_, ?_, ?_, ?_⟩
        · by_cases h : sumI a.part = sumI b.part
          · simp [h]
          · simp [h]
        · rw [Bool.eq_iff_iff]; simp
        · rw [Bool.eq_iff_iff, hsame]; simp
        · rw [ByteArray.toList_eq, ByteArray.toList_eq]; exact hstr
      obtain ⟨q1, q2, hf1, hf2, hf3, hf4⟩ := HFIN.out
      rw [hf1] at C5
      rw [hf3] at HEQ
      generalize (⟨a.part.toArray⟩ : ByteArray) = xs at *
      generalize (⟨b.part.toArray⟩ : ByteArray) = ys at *
      generalize sumI a.part = s1 at *
      generalize sumI b.part = s2 at *
      have HF2 := Lib.hid hf2
      have HF4 := Lib.hid hf4
      clear HFIN hf1 hf2 hf3 hf4 hstr hsame hver hpa hpb hlb2 hob2 hn64 hn hm hla hlb hfa hfb ha hb hk hoa hob
      have K4_0 : Hid (Blk W0 w.heap.size 24 ca) := by rw [hW0]; exact heap_alloc2_old w _ _
      have K5_0 : Hid (Blk W0 (w.heap.size + 1) 24 cb) := by rw [hW0]; exact heap_alloc2_new w _ _
      have BE_0 : Hid (Below w.heap.size w W0) := by rw [hW0]; exact ((Below.refl _ w).alloc (Nat.le_refl _) _).alloc (by simp) _
      have HW := Lib.hid hW0
      rw [← HA.out, ← HB.out]
      clear hW0
      go_enter Try.func9, Try.ntmps9
      go_wp2_with fail
      rw [← HW.out]
      clear l0 HW
      refine (SA.out _).mono ?_
      rintro e v1 ⟨rfl, b1⟩
      have K4_1 := Lib.hid (K4_0.out.below b1 K4_0.out.lt)
      have K5_1 := Lib.hid (K5_0.out.below b1 K5_0.out.lt)
      have BE_1 := Lib.hid (BE_0.out.trans (b1.mono BE_0.out.size))
      clear K4_0 K5_0 BE_0
      clear b1
      have lb : (loadRow 24 (.pointer (some ⟨(w.heap.size + 1), 0, none⟩))).run Try.prog v1 = .ok (.agg cb) v1 := load_rc K5_1.out HB7.out
      go_wp2_with fail
      clear lb
      refine (SB.out _).mono ?_
      rintro e v2 ⟨rfl, b2⟩
      have K4_2 := Lib.hid (K4_1.out.below b2 K4_1.out.lt)
      have K5_2 := Lib.hid (K5_1.out.below b2 K5_1.out.lt)
      have BE_2 := Lib.hid (BE_1.out.trans (b2.mono BE_1.out.size))
      clear K4_1 K5_1 BE_1
      clear b2
      have la : (loadRow 24 (.pointer (some ⟨w.heap.size, 0, none⟩))).run Try.prog v2 = .ok (.agg ca) v2 := load_rc K4_2.out HA7.out
      go_wp2_with fail
      clear la
      refine (C1.out _).mono ?_
      rintro e v3 ⟨rfl, b3⟩
      have K4_3 := Lib.hid (K4_2.out.below b3 K4_2.out.lt)
      have K5_3 := Lib.hid (K5_2.out.below b3 K5_2.out.lt)
      have BE_3 := Lib.hid (BE_2.out.trans (b3.mono BE_2.out.size))
      clear K4_2 K5_2 BE_2
      clear b3
      have q6 : v3.cell? ⟨w.heap.size + 1, 6, none⟩ = some (.int .u64 (b.sign : Int)) := (K5_3.out.cell 6).trans H6B.out
      have z6 : v3.frozen? ⟨w.heap.size + 1, 6, none⟩ = false := K5_3.out.frozen 6
      have J4 : Hid (Blk (v3.setCell ⟨w.heap.size + 1, 6, none⟩ (.int .u64 (n : Int))) w.heap.size 24 ca) := K4_3.out.far (p := ⟨w.heap.size + 1, 6, none⟩) (by show w.heap.size ≠ w.heap.size + 1; omega) _
      have J5 : Hid (Blk (v3.setCell ⟨w.heap.size + 1, 6, none⟩ (.int .u64 (n : Int))) (w.heap.size + 1) 24 db) := by
        have := K5_3.out.put 6 (.int .u64 (n : Int))
        rwa [HPB.out] at this
      have JE : Hid (Below w.heap.size w (v3.setCell ⟨w.heap.size + 1, 6, none⟩ (.int .u64 (n : Int)))) := BE_3.out.setCell (p := ⟨w.heap.size + 1, 6, none⟩) (by show w.heap.size ≤ w.heap.size + 1; omega) _
      have la : (loadRow 24 (.pointer (some ⟨w.heap.size, 0, none⟩))).run Try.prog (v3.setCell ⟨w.heap.size + 1, 6, none⟩ (.int .u64 (n : Int))) = .ok (.agg ca) (v3.setCell ⟨w.heap.size + 1, 6, none⟩ (.int .u64 (n : Int))) := load_rc J4.out HA7.out
      go_wp2_with fail
      clear la q6 z6 K4_3 K5_3 BE_3
      generalize v3.setCell ⟨w.heap.size + 1, 6, none⟩ (.int .u64 (n : Int)) = W1 at *
      have K4_0 := J4
      have K5_0 := J5
      have BE_0 := JE
      clear J4 J5 JE
      refine (C2.out _).mono ?_
      rintro e v4 ⟨rfl, b4⟩
      have K4_1 := Lib.hid (K4_0.out.below b4 K4_0.out.lt)
      have K5_1 := Lib.hid (K5_0.out.below b4 K5_0.out.lt)
      have BE_1 := Lib.hid (BE_0.out.trans (b4.mono BE_0.out.size))
      clear K4_0 K5_0 BE_0
      clear b4
      have lb : (loadRow 24 (.pointer (some ⟨(w.heap.size + 1), 0, none⟩))).run Try.prog v4 = .ok (.agg db) v4 := load_rc K5_1.out HD7.out
      go_wp2_with fail
      clear lb
      refine (C3.out _).mono ?_
      rintro e v5 ⟨rfl, b5⟩
      have K4_2 := Lib.hid (K4_1.out.below b5 K4_1.out.lt)
      have K5_2 := Lib.hid (K5_1.out.below b5 K5_1.out.lt)
      have BE_2 := Lib.hid (BE_1.out.trans (b5.mono BE_1.out.size))
      clear K4_1 K5_1 BE_1
      clear b5
      have la : (loadRow 24 (.pointer (some ⟨w.heap.size, 0, none⟩))).run Try.prog v5 = .ok (.agg ca) v5 := load_rc K4_2.out HA7.out
      go_wp2_with fail
      clear la
      refine (C1.out _).mono ?_
      rintro e v6 ⟨rfl, b6⟩
      have K4_3 := Lib.hid (K4_2.out.below b6 K4_2.out.lt)
      have K5_3 := Lib.hid (K5_2.out.below b6 K5_2.out.lt)
      have BE_3 := Lib.hid (BE_2.out.trans (b6.mono BE_2.out.size))
      clear K4_2 K5_2 BE_2
      clear b6
      go_wp2_with fail
      refine (KX.out _).mono ?_
      rintro e w' ⟨rfl, rfl⟩
      have lb : (loadRow 24 (.pointer (some ⟨(w.heap.size + 1), 0, none⟩))).run Try.prog v6 = .ok (.agg db) v6 := load_rc K5_3.out HD7.out
      go_wp2_with fail
      clear lb
      refine (C4.out _).mono ?_
      rintro e v7 ⟨rfl, b7⟩
      have K4_4 := Lib.hid (K4_3.out.below b7 K4_3.out.lt)
      have K5_4 := Lib.hid (K5_3.out.below b7 K5_3.out.lt)
      have BE_4 := Lib.hid (BE_3.out.trans (b7.mono BE_3.out.size))
      clear K4_3 K5_3 BE_3
      clear b7
      go_wp2_with fail
      refine (KY.out _).mono ?_
      rintro e w' ⟨rfl, rfl⟩
      have q6 : v7.cell? ⟨w.heap.size, 6, none⟩ = some (.int .u64 (a.sign : Int)) := (K4_4.out.cell 6).trans H6A.out
      have z6 : v7.frozen? ⟨w.heap.size, 6, none⟩ = false := K4_4.out.frozen 6
      have hsz : (v7.setCell ⟨w.heap.size, 6, none⟩ (.int .u64 0)).heap.size = v7.heap.size := size_setCell _ _ _
      have y4 : Blk (v7.setCell ⟨w.heap.size, 6, none⟩ (.int .u64 0)) w.heap.size 24 da := by
        have := K4_4.out.put 6 (.int .u64 0)
        rwa [HPA.out] at this
      have y5 : Blk (v7.setCell ⟨w.heap.size, 6, none⟩ (.int .u64 0)) (w.heap.size + 1) 24 db := K5_4.out.far (p := ⟨w.heap.size, 6, none⟩) (by show w.heap.size + 1 ≠ w.heap.size; omega) _
      have ye : Below w.heap.size w (v7.setCell ⟨w.heap.size, 6, none⟩ (.int .u64 0)) := BE_4.out.setCell (p := ⟨w.heap.size, 6, none⟩) (Nat.le_refl _) _
      have lb : (loadRow 24 (.pointer (some ⟨(w.heap.size + 1), 0, none⟩))).run Try.prog (v7.setCell ⟨w.heap.size, 6, none⟩ (.int .u64 0)) = .ok (.agg db) (v7.setCell ⟨w.heap.size, 6, none⟩ (.int .u64 0)) := load_rc y5 HD7.out
      have kz : Blk ((v7.setCell ⟨w.heap.size, 6, none⟩ (.int .u64 0)).alloc (.cells #[.string ⟨#[]⟩, .string ⟨#[]⟩, .string ⟨#[]⟩, .int .i64 0, .int .i64 0, .int .i64 0, .int .u64 0] 24)) v7.heap.size 24 #[.string ⟨#[]⟩, .string ⟨#[]⟩, .string ⟨#[]⟩, .int .i64 0, .int .i64 0, .int .i64 0, .int .u64 0] := by
        have := Blk.new (v7.setCell ⟨w.heap.size, 6, none⟩ (.int .u64 0)) 24 #[.string ⟨#[]⟩, .string ⟨#[]⟩, .string ⟨#[]⟩, .int .i64 0, .int .i64 0, .int .i64 0, .int .u64 0]
        rwa [hsz] at this
      have st := store_rc (cs := db) kz rfl HD7.out HD1.out
      obtain ⟨W9, hW9⟩ : ∃ W9, W9 = (World.setRow ((v7.setCell ⟨w.heap.size, 6, none⟩ (.int .u64 0)).alloc (.cells #[.string ⟨#[]⟩, .string ⟨#[]⟩, .string ⟨#[]⟩, .int .i64 0, .int .i64 0, .int .i64 0, .int .u64 0] 24)) v7.heap.size db) := ⟨_, rfl⟩
      have k9 : Blk W9 v7.heap.size 24 db := by rw [hW9]; exact Blk_setRow kz _
      have F : Below (v7.setCell ⟨w.heap.size, 6, none⟩ (.int .u64 0)).heap.size (v7.setCell ⟨w.heap.size, 6, none⟩ (.int .u64 0)) W9 := by rw [hW9]; exact ((Below.refl _ _).alloc (Nat.le_refl _) _).trans ((frm_setRow _ _ _).below (by simp) (fun i hi e => by rw [hsz] at hi; omega))
      rw [← hW9] at st
      have q9 : W9.cell? ⟨v7.heap.size, 6, none⟩ = some (.int .u64 (n : Int)) := (k9.cell 6).trans H6D.out
      have z9 : W9.frozen? ⟨v7.heap.size, 6, none⟩ = false := k9.frozen 6
      have hl4 : w.heap.size < v7.heap.size := K4_4.out.lt
      have hl5 : w.heap.size + 1 < v7.heap.size := K5_4.out.lt
      have J4 : Hid (Blk (W9.setCell ⟨v7.heap.size, 6, none⟩ (.int .u64 0)) w.heap.size 24 da) := (y4.below F (by rw [hsz]; exact hl4)).far (p := ⟨v7.heap.size, 6, none⟩) (by show w.heap.size ≠ v7.heap.size; omega) _
      have J5 : Hid (Blk (W9.setCell ⟨v7.heap.size, 6, none⟩ (.int .u64 0)) (w.heap.size + 1) 24 db) := (y5.below F (by rw [hsz]; exact hl5)).far (p := ⟨v7.heap.size, 6, none⟩) (by show w.heap.size + 1 ≠ v7.heap.size; omega) _
      have J9 : Hid (Blk (W9.setCell ⟨v7.heap.size, 6, none⟩ (.int .u64 0)) v7.heap.size 24 dc) := by
        have := k9.put 6 (.int .u64 0)
        rwa [HPC.out] at this
      have JE : Hid (Below w.heap.size w (W9.setCell ⟨v7.heap.size, 6, none⟩ (.int .u64 0))) := (ye.trans (F.mono ye.size)).setCell (p := ⟨v7.heap.size, 6, none⟩) (by show w.heap.size ≤ v7.heap.size; omega) _
      have ld5 : (loadRow 24 (.pointer (some ⟨(w.heap.size + 1), 0, none⟩))).run Try.prog (W9.setCell ⟨v7.heap.size, 6, none⟩ (.int .u64 0)) = .ok (.agg db) (W9.setCell ⟨v7.heap.size, 6, none⟩ (.int .u64 0)) := load_rc J5.out HD7.out
      clear hsz y4 y5 ye kz hW9 k9 F hl4 hl5
      go_wp2_with fail
      clear lb st q6 z6 q9 z9 ld5 K4_4 K5_4 BE_4
      generalize (W9.setCell ⟨v7.heap.size, 6, none⟩ (.int .u64 0)) = W10 at *
      generalize v7.heap.size = g9 at *
      have K4_0 := J4
      have K5_0 := J5
      have K9_0 := J9
      have BE_0 := JE
      clear J4 J5 J9 JE
      clear K5_0
      have t2 := HF2.out
      have t4 := HF4.out
      cases q1 <;> cases q2
      · clear HF2 HF4
        refine (C5.out _).mono ?_
        rintro e v8 ⟨rfl, b8⟩
        have K4_1 := Lib.hid (K4_0.out.below b8 K4_0.out.lt)
        have K9_1 := Lib.hid (K9_0.out.below b8 K9_0.out.lt)
        have BE_1 := Lib.hid (BE_0.out.trans (b8.mono BE_0.out.size))
        clear K4_0 K9_0 BE_0
        clear b8
        go_wp2_with fail
        refine (MX.out _).mono ?_
        rintro e w' ⟨rfl, rfl⟩
        go_wp2_with fail
        refine (MY.out _).mono ?_
        rintro e w' ⟨rfl, rfl⟩
        have la : (loadRow 24 (.pointer (some ⟨w.heap.size, 0, none⟩))).run Try.prog v8 = .ok (.agg da) v8 := load_rc K4_1.out (by rw [← HPA.out]; simpa using HA7.out)
        have lc : (loadRow 24 (.pointer (some ⟨g9, 0, none⟩))).run Try.prog v8 = .ok (.agg dc) v8 := load_rc K9_1.out (by rw [← HPC.out]; simpa using HD7.out)
        have he := HEQ.out
        go_wp2_with fail
        clear la lc he
        refine (awake19 _).mono ?_
        rintro e v9 ⟨rfl, b9⟩
        have K4_2 := Lib.hid (K4_1.out.below b9 K4_1.out.lt)
        have K9_2 := Lib.hid (K9_1.out.below b9 K9_1.out.lt)
        have BE_2 := Lib.hid (BE_1.out.trans (b9.mono BE_1.out.size))
        clear K4_1 K9_1 BE_1
        clear b9
        go_wp2_with fail
        go_ret
        exact ⟨rfl, BE_2.out⟩
      · clear HF2 HF4
        refine (C5.out _).mono ?_
        rintro e v8 ⟨rfl, b8⟩
        have K4_1 := Lib.hid (K4_0.out.below b8 K4_0.out.lt)
        have K9_1 := Lib.hid (K9_0.out.below b8 K9_0.out.lt)
        have BE_1 := Lib.hid (BE_0.out.trans (b8.mono BE_0.out.size))
        clear K4_0 K9_0 BE_0
        clear b8
        go_wp2_with fail
        refine (MX.out _).mono ?_
        rintro e w' ⟨rfl, rfl⟩
        go_wp2_with fail
        refine (MY.out _).mono ?_
        rintro e w' ⟨rfl, rfl⟩
        have la : (loadRow 24 (.pointer (some ⟨w.heap.size, 0, none⟩))).run Try.prog v8 = .ok (.agg da) v8 := load_rc K4_1.out (by rw [← HPA.out]; simpa using HA7.out)
        have lc : (loadRow 24 (.pointer (some ⟨g9, 0, none⟩))).run Try.prog v8 = .ok (.agg dc) v8 := load_rc K9_1.out (by rw [← HPC.out]; simpa using HD7.out)
        have he := HEQ.out
        go_wp2_with fail
        clear la lc he
        refine (awake19 _).mono ?_
        rintro e v9 ⟨rfl, b9⟩
        have K4_2 := Lib.hid (K4_1.out.below b9 K4_1.out.lt)
        have K9_2 := Lib.hid (K9_1.out.below b9 K9_1.out.lt)
        have BE_2 := Lib.hid (BE_1.out.trans (b9.mono BE_1.out.size))
        clear K4_1 K9_1 BE_1
        clear b9
        go_wp2_with fail
        go_ret
        exact ⟨rfl, BE_2.out⟩
      · clear HF2 HF4
        refine (C5.out _).mono ?_
        rintro e v8 ⟨rfl, b8⟩
        have K4_1 := Lib.hid (K4_0.out.below b8 K4_0.out.lt)
        have K9_1 := Lib.hid (K9_0.out.below b8 K9_0.out.lt)
        have BE_1 := Lib.hid (BE_0.out.trans (b8.mono BE_0.out.size))
        clear K4_0 K9_0 BE_0
        clear b8
        go_wp2_with fail
        refine (MX.out _).mono ?_
        rintro e w' ⟨rfl, rfl⟩
        go_wp2_with fail
        refine (MY.out _).mono ?_
        rintro e w' ⟨rfl, rfl⟩
        have la : (loadRow 24 (.pointer (some ⟨w.heap.size, 0, none⟩))).run Try.prog v8 = .ok (.agg da) v8 := load_rc K4_1.out (by rw [← HPA.out]; simpa using HA7.out)
        have lc : (loadRow 24 (.pointer (some ⟨g9, 0, none⟩))).run Try.prog v8 = .ok (.agg dc) v8 := load_rc K9_1.out (by rw [← HPC.out]; simpa using HD7.out)
        have he := HEQ.out
        go_wp2_with fail
        clear la lc he
        refine (awake19 _).mono ?_
        rintro e v9 ⟨rfl, b9⟩
        have K4_2 := Lib.hid (K4_1.out.below b9 K4_1.out.lt)
        have K9_2 := Lib.hid (K9_1.out.below b9 K9_1.out.lt)
        have BE_2 := Lib.hid (BE_1.out.trans (b9.mono BE_1.out.size))
        clear K4_1 K9_1 BE_1
        clear b9
        go_wp2_with fail
        go_ret
        exact ⟨rfl, BE_2.out⟩
      · clear HF2 HF4
        refine (C5.out _).mono ?_
        rintro e v8 ⟨rfl, b8⟩
        have K4_1 := Lib.hid (K4_0.out.below b8 K4_0.out.lt)
        have K9_1 := Lib.hid (K9_0.out.below b8 K9_0.out.lt)
        have BE_1 := Lib.hid (BE_0.out.trans (b8.mono BE_0.out.size))
        clear K4_0 K9_0 BE_0
        clear b8
        go_wp2_with fail
        refine (MX.out _).mono ?_
        rintro e w' ⟨rfl, rfl⟩
        go_wp2_with fail
        refine (MY.out _).mono ?_
        rintro e w' ⟨rfl, rfl⟩
        have la : (loadRow 24 (.pointer (some ⟨w.heap.size, 0, none⟩))).run Try.prog v8 = .ok (.agg da) v8 := load_rc K4_1.out (by rw [← HPA.out]; simpa using HA7.out)
        have lc : (loadRow 24 (.pointer (some ⟨g9, 0, none⟩))).run Try.prog v8 = .ok (.agg dc) v8 := load_rc K9_1.out (by rw [← HPC.out]; simpa using HD7.out)
        have he := HEQ.out
        go_wp2_with fail
        clear la lc he
        refine (awake19 _).mono ?_
        rintro e v9 ⟨rfl, b9⟩
        have K4_2 := Lib.hid (K4_1.out.below b9 K4_1.out.lt)
        have K9_2 := Lib.hid (K9_1.out.below b9 K9_1.out.lt)
        have BE_2 := Lib.hid (BE_1.out.trans (b9.mono BE_1.out.size))
        clear K4_1 K9_1 BE_1
        clear b9
        go_wp2_with fail
        go_ret
        exact ⟨rfl, BE_2.out⟩
end Go.Proofs.Ytjnaooiklcbemaa.Rt
