/-
  The walks of Encode, of package journal and of its reference. Conditions: the record lies in memory, its texts and lists of a length that a writer writes.
-/
import Derived.Test.YthpmngdpgniehaaJrEnc
import Derived.Test.YthpmngdpgniehaaWrV2
namespace Go.Proofs.Ythpmngdpgniehaa.Jr
open Go.RowKit Go.Proofs.Ythpmngdpgniehaa.Mem Go.Proofs.Ythpmngdpgniehaa.Wr Go.Proofs.Ythpmngdpgniehaa.Opn
theorem _root_.Go.Proofs.Ythpmngdpgniehaa.Wr.WrTo.below_old {g : Nat} {v : Value} {w W w1 wk : World} (ht : WrTo g (.slice none 0 0) v w1 wk) (hg : W.heap.size ≤ g) (hz : w.heap.size < W.heap.size) (hb : Below w.heap.size w w1) : Below w.heap.size w wk :=
  hb.trans (ht.below hb.size fun _ hk => own_none (Nat.le_trans (Nat.le_of_lt hz) hg) hk)

set_option maxRecDepth 100000 in
set_option maxHeartbeats 4000000 in
theorem encode_any (r : Rec) (cs : Array Value) (w : World) (hr : IsRec w cs r) (hf : RecFit r) (hl : Lim r) :
    Calls Try.prog 19 #[.agg cs] w (RetBytes (enc r) w) := by
  obtain ⟨A7, c7, A11, c11, rfl, h7, h11, _, _⟩ := hr
  unfold recCells
  have HL := Lib.hid hl
  have HF := Lib.hid hf
  have HS7 := Lib.hid h7
  have HS11 := Lib.hid h11
  obtain ⟨W, hW⟩ : ∃ W, W = w.alloc (.cells #[.int .i64 r.k0, .int .i64 r.k1, .int .i64 r.k2, .int .i64 r.k3, .int .i64 r.k4, .string r.name, .string r.text, .slice A7 r.nums.length c7, .int .u64 r.key, .int .u64 r.nonce, .string r.ticket, .slice A11 r.amts.length c11] 27) := ⟨_, rfl⟩
  have KB : Hid (Blk W w.heap.size 27 #[.int .i64 r.k0, .int .i64 r.k1, .int .i64 r.k2, .int .i64 r.k3, .int .i64 r.k4, .string r.name, .string r.text, .slice A7 r.nums.length c7, .int .u64 r.key, .int .u64 r.nonce, .string r.ticket, .slice A11 r.amts.length c11]) := by rw [hW]; exact Blk.new _ _ _
  have B0 : Hid (Below w.heap.size w W) := by rw [hW]; exact (Below.refl _ _).alloc (Nat.le_refl _) _
  have Z0 : Hid (w.heap.size < W.heap.size) := by rw [hW]; show _ < _; simp
  have HW := Lib.hid hW
  obtain ⟨n8, hn8⟩ : ∃ n8, n8 = r.key.toNat := ⟨_, rfl⟩
  obtain ⟨n9, hn9⟩ : ∃ n9, n9 = r.nonce.toNat := ⟨_, rfl⟩
  have K8 : Hid (r.key = (n8 : Int)) := Lib.hid (by rw [hn8]; exact (Int.toNat_of_nonneg hf.key.1).symm)
  have K9 : Hid (r.nonce = (n9 : Int)) := Lib.hid (by rw [hn9]; exact (Int.toNat_of_nonneg hf.nonce.1).symm)
  have N8 := Lib.hid hn8
  have N9 := Lib.hid hn9
  clear hW hl hf h7 h11 hn8 hn9
  go_enter Try.func19, Try.ntmps19
  go_wp2_with fail
  rw [← HW.out]
  refine (newWriter_any _).mono ?_
  rintro e w1 ⟨g, rfl, hg, hw1, hb1⟩
  have H0 : Hid (Wr 93 w1 g (.slice none 0 0) (pre r 0)) := Lib.hid hw1
  have B1 := Lib.hid (B0.out.trans (hb1.mono (Nat.le_of_lt Z0.out)))
  have K1 := Lib.hid (KB.out.below hb1 Z0.out)
  have HG := Lib.hid hg
  have T0 : Hid (WrTo g (.slice none 0 0) (.slice none 0 0) w1 w1) := WrTo.refl _ _ _
  have q0 : w1.cell? ⟨w.heap.size, 0, none⟩ = some (.int .i64 r.k0) := K1.out.cell 0
  clear hg hw1 hb1 KB
  go_wp2_with fail
  refine (wint_any g (.slice none 0 0) _ r.k0 _ H0.out HF.out.k0 (fit_pre HF.out HL.out 0 10 (by decide) (by decide))).mono ?_
  rintro e w2 ⟨rfl, v1, hw, ht⟩
  skip
  have H1 : Hid (Wr 93 w2 g v1 (pre r 1)) := Lib.hid hw
  have T1 := Lib.hid (T0.out.trans ht)
  clear hw ht q0 H0 T0
  have q1 : w2.cell? ⟨w.heap.size, 1, none⟩ = some (.int .i64 r.k1) := (K1.out.frm T1.out.1 (fun h => by have := own_none HG.out h; have := Z0.out; omega)).cell 1
  go_wp2_with fail
  refine (wint_any g v1 _ r.k1 _ H1.out HF.out.k1 (fit_pre HF.out HL.out 1 10 (by decide) (by decide))).mono ?_
  rintro e w3 ⟨rfl, v2, hw, ht⟩
  skip
  have H2 : Hid (Wr 93 w3 g v2 (pre r 2)) := Lib.hid hw
  have T2 := Lib.hid (T1.out.trans ht)
  clear hw ht q1 H1 T1
  have q2 : w3.cell? ⟨w.heap.size, 2, none⟩ = some (.int .i64 r.k2) := (K1.out.frm T2.out.1 (fun h => by have := own_none HG.out h; have := Z0.out; omega)).cell 2
  go_wp2_with fail
  refine (wint_any g v2 _ r.k2 _ H2.out HF.out.k2 (fit_pre HF.out HL.out 2 10 (by decide) (by decide))).mono ?_
  rintro e w4 ⟨rfl, v3, hw, ht⟩
  skip
  have H3 : Hid (Wr 93 w4 g v3 (pre r 3)) := Lib.hid hw
  have T3 := Lib.hid (T2.out.trans ht)
  clear hw ht q2 H2 T2
  have q3 : w4.cell? ⟨w.heap.size, 3, none⟩ = some (.int .i64 r.k3) := (K1.out.frm T3.out.1 (fun h => by have := own_none HG.out h; have := Z0.out; omega)).cell 3
  go_wp2_with fail
  refine (wint_any g v3 _ r.k3 _ H3.out HF.out.k3 (fit_pre HF.out HL.out 3 10 (by decide) (by decide))).mono ?_
  rintro e w5 ⟨rfl, v4, hw, ht⟩
  skip
  have H4 : Hid (Wr 93 w5 g v4 (pre r 4)) := Lib.hid hw
  have T4 := Lib.hid (T3.out.trans ht)
  clear hw ht q3 H3 T3
  have q4 : w5.cell? ⟨w.heap.size, 4, none⟩ = some (.int .i64 r.k4) := (K1.out.frm T4.out.1 (fun h => by have := own_none HG.out h; have := Z0.out; omega)).cell 4
  go_wp2_with fail
  refine (wint_any g v4 _ r.k4 _ H4.out HF.out.k4 (fit_pre HF.out HL.out 4 10 (by decide) (by decide))).mono ?_
  rintro e w6 ⟨rfl, v5, hw, ht⟩
  skip
  have H5 : Hid (Wr 93 w6 g v5 (pre r 5)) := Lib.hid hw
  have T5 := Lib.hid (T4.out.trans ht)
  clear hw ht q4 H4 T4
  have q5 : w6.cell? ⟨w.heap.size, 5, none⟩ = some (.string r.name) := (K1.out.frm T5.out.1 (fun h => by have := own_none HG.out h; have := Z0.out; omega)).cell 5
  go_wp2_with fail
  refine (wtext_any g v5 _ r.name _ H5.out (Nat.le_trans HL.out.name (by decide)) (fit_pre2 HF.out HL.out 5 _ (by decide) HL.out.name)).mono ?_
  rintro e w7 ⟨rfl, v6, hw, ht⟩
  skip
  have H6 : Hid (Wr 93 w7 g v6 (pre r 6)) := Lib.hid hw
  have T6 := Lib.hid (T5.out.trans ht)
  clear hw ht q5 H5 T5
  have q6 : w7.cell? ⟨w.heap.size, 6, none⟩ = some (.string r.text) := (K1.out.frm T6.out.1 (fun h => by have := own_none HG.out h; have := Z0.out; omega)).cell 6
  go_wp2_with fail
  refine (wtext_any g v6 _ r.text _ H6.out (Nat.le_trans HL.out.text (by decide)) (fit_pre2 HF.out HL.out 6 _ (by decide) HL.out.text)).mono ?_
  rintro e w8 ⟨rfl, v7, hw, ht⟩
  skip
  have H7 : Hid (Wr 93 w8 g v7 (pre r 7)) := Lib.hid hw
  have T7 := Lib.hid (T6.out.trans ht)
  clear hw ht q6 H6 T6
  have q7 : w8.cell? ⟨w.heap.size, 7, none⟩ = some (.slice A7 r.nums.length c7) := (K1.out.frm T7.out.1 (fun h => by have := own_none HG.out h; have := Z0.out; omega)).cell 7
  go_wp2_with fail
  refine (wints_any g v7 _ r.nums A7 _ c7 _ H7.out (HS7.out.below (T7.out.below_old HG.out Z0.out B1.out) (Nat.le_refl _)) (fun h a ha ho => absurd (sl_old HS7.out h a ha) (Nat.not_lt.2 (own_new (Nat.le_trans (Nat.le_of_lt Z0.out) HG.out) B1.out.size T7.out ho))) HF.out.nums (Nat.le_trans HL.out.nums (by decide)) (fit_pre3 HF.out HL.out 7 _ (by decide) HL.out.nums)).mono ?_
  rintro e w9 ⟨rfl, v8, hw, ht⟩
  skip
  have H8 : Hid (Wr 93 w9 g v8 (pre r 8)) := Lib.hid hw
  have T8 := Lib.hid (T7.out.trans ht)
  clear hw ht q7 H7 T7
  have q8 : w9.cell? ⟨w.heap.size, 8, none⟩ = some (.int .u64 (n8 : Int)) := by have := (K1.out.frm T8.out.1 (fun h => by have := own_none HG.out h; have := Z0.out; omega)).cell 8; rw [this, ← K8.out]; rfl
  go_wp2_with fail
  refine (uint_any g v8 _ n8 _ H8.out (by rw [N8.out]; exact n64_key HF.out.key) (fit_pre HF.out HL.out 8 10 (by decide) (by decide))).mono ?_
  rintro e w10 ⟨rfl, v9, hw, ht⟩
  rw [N8.out] at hw
  have H9 : Hid (Wr 93 w10 g v9 (pre r 9)) := Lib.hid hw
  have T9 := Lib.hid (T8.out.trans ht)
  clear hw ht q8 H8 T8
  have q9 : w10.cell? ⟨w.heap.size, 9, none⟩ = some (.int .u64 (n9 : Int)) := by have := (K1.out.frm T9.out.1 (fun h => by have := own_none HG.out h; have := Z0.out; omega)).cell 9; rw [this, ← K9.out]; rfl
  go_wp2_with fail
  refine (uint_any g v9 _ n9 _ H9.out (by rw [N9.out]; exact n64_key HF.out.nonce) (fit_pre HF.out HL.out 9 10 (by decide) (by decide))).mono ?_
  rintro e w11 ⟨rfl, v10, hw, ht⟩
  rw [N9.out] at hw
  have H10 : Hid (Wr 93 w11 g v10 (pre r 10)) := Lib.hid hw
  have T10 := Lib.hid (T9.out.trans ht)
  clear hw ht q9 H9 T9
  have q10 : w11.cell? ⟨w.heap.size, 10, none⟩ = some (.string r.ticket) := (K1.out.frm T10.out.1 (fun h => by have := own_none HG.out h; have := Z0.out; omega)).cell 10
  go_wp2_with fail
  refine (wtext_any g v10 _ r.ticket _ H10.out (Nat.le_trans HL.out.ticket (by decide)) (fit_pre2 HF.out HL.out 10 _ (by decide) HL.out.ticket)).mono ?_
  rintro e w12 ⟨rfl, v11, hw, ht⟩
  skip
  have H11 : Hid (Wr 93 w12 g v11 (pre r 11)) := Lib.hid hw
  have T11 := Lib.hid (T10.out.trans ht)
  clear hw ht q10 H10 T10
  have q11 : w12.cell? ⟨w.heap.size, 11, none⟩ = some (.slice A11 r.amts.length c11) := (K1.out.frm T11.out.1 (fun h => by have := own_none HG.out h; have := Z0.out; omega)).cell 11
  go_wp2_with fail
  refine (wints_any g v11 _ r.amts A11 _ c11 _ H11.out (HS11.out.below (T11.out.below_old HG.out Z0.out B1.out) (Nat.le_refl _)) (fun h a ha ho => absurd (sl_old HS11.out h a ha) (Nat.not_lt.2 (own_new (Nat.le_trans (Nat.le_of_lt Z0.out) HG.out) B1.out.size T11.out ho))) HF.out.amts (Nat.le_trans HL.out.amts (by decide)) (fit_pre3 HF.out HL.out 11 _ (by decide) HL.out.amts)).mono ?_
  rintro e w13 ⟨rfl, v12, hw, ht⟩
  skip
  have H12 : Hid (Wr 93 w13 g v12 (pre r 12)) := Lib.hid hw
  have T12 := Lib.hid (T11.out.trans ht)
  clear hw ht q11 H11 T11
  go_wp2_with fail
  refine (wbytes_any g v12 _ _ H12.out (fit_pre HF.out HL.out 12 0 (by decide) (by decide))).mono ?_
  rintro e w14 ⟨x, rfl, ho, hk, hb⟩
  have BB := Lib.hid (T12.out.below_old HG.out Z0.out B1.out)
  have HR : Hid (RetBytes (enc r) w (.returned x) w14) := Lib.hid ⟨x, rfl, ho, fun k hk2 => Nat.le_trans BB.out.size (hk k hk2), BB.out.trans (hb.mono BB.out.size)⟩
  clear ho hk hb
  go_wp2_with fail
  go_ret
  exact HR.out

set_option maxRecDepth 100000 in
set_option maxHeartbeats 4000000 in
theorem encodeR_any (r : Rec) (cs : Array Value) (w : World) (hr : IsRec w cs r) (hf : RecFit r) (hl : Lim r) :
    Calls Try.prog 20 #[.agg cs] w (RetBytes (enc r) w) := by
  obtain ⟨A7, c7, A11, c11, rfl, h7, h11, _, _⟩ := hr
  unfold recCells
  have HL := Lib.hid hl
  have HF := Lib.hid hf
  have HS7 := Lib.hid h7
  have HS11 := Lib.hid h11
  obtain ⟨W, hW⟩ : ∃ W, W = w.alloc (.cells #[.int .i64 r.k0, .int .i64 r.k1, .int .i64 r.k2, .int .i64 r.k3, .int .i64 r.k4, .string r.name, .string r.text, .slice A7 r.nums.length c7, .int .u64 r.key, .int .u64 r.nonce, .string r.ticket, .slice A11 r.amts.length c11] 27) := ⟨_, rfl⟩
  have KB : Hid (Blk W w.heap.size 27 #[.int .i64 r.k0, .int .i64 r.k1, .int .i64 r.k2, .int .i64 r.k3, .int .i64 r.k4, .string r.name, .string r.text, .slice A7 r.nums.length c7, .int .u64 r.key, .int .u64 r.nonce, .string r.ticket, .slice A11 r.amts.length c11]) := by rw [hW]; exact Blk.new _ _ _
  have B0 : Hid (Below w.heap.size w W) := by rw [hW]; exact (Below.refl _ _).alloc (Nat.le_refl _) _
  have Z0 : Hid (w.heap.size < W.heap.size) := by rw [hW]; show _ < _; simp
  have HW := Lib.hid hW
  obtain ⟨n8, hn8⟩ : ∃ n8, n8 = r.key.toNat := ⟨_, rfl⟩
  obtain ⟨n9, hn9⟩ : ∃ n9, n9 = r.nonce.toNat := ⟨_, rfl⟩
  have K8 : Hid (r.key = (n8 : Int)) := Lib.hid (by rw [hn8]; exact (Int.toNat_of_nonneg hf.key.1).symm)
  have K9 : Hid (r.nonce = (n9 : Int)) := Lib.hid (by rw [hn9]; exact (Int.toNat_of_nonneg hf.nonce.1).symm)
  have N8 := Lib.hid hn8
  have N9 := Lib.hid hn9
  clear hW hl hf h7 h11 hn8 hn9
  go_enter Try.func20, Try.ntmps20
  go_wp2_with fail
  rw [← HW.out]
  refine (newWriterR_any _).mono ?_
  rintro e w1 ⟨g, rfl, hg, hw1, hb1⟩
  have H0 : Hid (Wr 97 w1 g (.slice none 0 0) (pre r 0)) := Lib.hid hw1
  have B1 := Lib.hid (B0.out.trans (hb1.mono (Nat.le_of_lt Z0.out)))
  have K1 := Lib.hid (KB.out.below hb1 Z0.out)
  have HG := Lib.hid hg
  have T0 : Hid (WrTo g (.slice none 0 0) (.slice none 0 0) w1 w1) := WrTo.refl _ _ _
  have q0 : w1.cell? ⟨w.heap.size, 0, none⟩ = some (.int .i64 r.k0) := K1.out.cell 0
  clear hg hw1 hb1 KB
  go_wp2_with fail
  refine (wintR_any g (.slice none 0 0) _ r.k0 _ H0.out HF.out.k0 (fit_pre HF.out HL.out 0 10 (by decide) (by decide))).mono ?_
  rintro e w2 ⟨rfl, v1, hw, ht⟩
  skip
  have H1 : Hid (Wr 97 w2 g v1 (pre r 1)) := Lib.hid hw
  have T1 := Lib.hid (T0.out.trans ht)
  clear hw ht q0 H0 T0
  have q1 : w2.cell? ⟨w.heap.size, 1, none⟩ = some (.int .i64 r.k1) := (K1.out.frm T1.out.1 (fun h => by have := own_none HG.out h; have := Z0.out; omega)).cell 1
  go_wp2_with fail
  refine (wintR_any g v1 _ r.k1 _ H1.out HF.out.k1 (fit_pre HF.out HL.out 1 10 (by decide) (by decide))).mono ?_
  rintro e w3 ⟨rfl, v2, hw, ht⟩
  skip
  have H2 : Hid (Wr 97 w3 g v2 (pre r 2)) := Lib.hid hw
  have T2 := Lib.hid (T1.out.trans ht)
  clear hw ht q1 H1 T1
  have q2 : w3.cell? ⟨w.heap.size, 2, none⟩ = some (.int .i64 r.k2) := (K1.out.frm T2.out.1 (fun h => by have := own_none HG.out h; have := Z0.out; omega)).cell 2
  go_wp2_with fail
  refine (wintR_any g v2 _ r.k2 _ H2.out HF.out.k2 (fit_pre HF.out HL.out 2 10 (by decide) (by decide))).mono ?_
  rintro e w4 ⟨rfl, v3, hw, ht⟩
  skip
  have H3 : Hid (Wr 97 w4 g v3 (pre r 3)) := Lib.hid hw
  have T3 := Lib.hid (T2.out.trans ht)
  clear hw ht q2 H2 T2
  have q3 : w4.cell? ⟨w.heap.size, 3, none⟩ = some (.int .i64 r.k3) := (K1.out.frm T3.out.1 (fun h => by have := own_none HG.out h; have := Z0.out; omega)).cell 3
  go_wp2_with fail
  refine (wintR_any g v3 _ r.k3 _ H3.out HF.out.k3 (fit_pre HF.out HL.out 3 10 (by decide) (by decide))).mono ?_
  rintro e w5 ⟨rfl, v4, hw, ht⟩
  skip
  have H4 : Hid (Wr 97 w5 g v4 (pre r 4)) := Lib.hid hw
  have T4 := Lib.hid (T3.out.trans ht)
  clear hw ht q3 H3 T3
  have q4 : w5.cell? ⟨w.heap.size, 4, none⟩ = some (.int .i64 r.k4) := (K1.out.frm T4.out.1 (fun h => by have := own_none HG.out h; have := Z0.out; omega)).cell 4
  go_wp2_with fail
  refine (wintR_any g v4 _ r.k4 _ H4.out HF.out.k4 (fit_pre HF.out HL.out 4 10 (by decide) (by decide))).mono ?_
  rintro e w6 ⟨rfl, v5, hw, ht⟩
  skip
  have H5 : Hid (Wr 97 w6 g v5 (pre r 5)) := Lib.hid hw
  have T5 := Lib.hid (T4.out.trans ht)
  clear hw ht q4 H4 T4
  have q5 : w6.cell? ⟨w.heap.size, 5, none⟩ = some (.string r.name) := (K1.out.frm T5.out.1 (fun h => by have := own_none HG.out h; have := Z0.out; omega)).cell 5
  go_wp2_with fail
  refine (wtextR_any g v5 _ r.name _ H5.out (Nat.le_trans HL.out.name (by decide)) (fit_pre2 HF.out HL.out 5 _ (by decide) HL.out.name)).mono ?_
  rintro e w7 ⟨rfl, v6, hw, ht⟩
  skip
  have H6 : Hid (Wr 97 w7 g v6 (pre r 6)) := Lib.hid hw
  have T6 := Lib.hid (T5.out.trans ht)
  clear hw ht q5 H5 T5
  have q6 : w7.cell? ⟨w.heap.size, 6, none⟩ = some (.string r.text) := (K1.out.frm T6.out.1 (fun h => by have := own_none HG.out h; have := Z0.out; omega)).cell 6
  go_wp2_with fail
  refine (wtextR_any g v6 _ r.text _ H6.out (Nat.le_trans HL.out.text (by decide)) (fit_pre2 HF.out HL.out 6 _ (by decide) HL.out.text)).mono ?_
  rintro e w8 ⟨rfl, v7, hw, ht⟩
  skip
  have H7 : Hid (Wr 97 w8 g v7 (pre r 7)) := Lib.hid hw
  have T7 := Lib.hid (T6.out.trans ht)
  clear hw ht q6 H6 T6
  have q7 : w8.cell? ⟨w.heap.size, 7, none⟩ = some (.slice A7 r.nums.length c7) := (K1.out.frm T7.out.1 (fun h => by have := own_none HG.out h; have := Z0.out; omega)).cell 7
  go_wp2_with fail
  refine (wintsR_any g v7 _ r.nums A7 _ c7 _ H7.out (HS7.out.below (T7.out.below_old HG.out Z0.out B1.out) (Nat.le_refl _)) (fun h a ha ho => absurd (sl_old HS7.out h a ha) (Nat.not_lt.2 (own_new (Nat.le_trans (Nat.le_of_lt Z0.out) HG.out) B1.out.size T7.out ho))) HF.out.nums (Nat.le_trans HL.out.nums (by decide)) (fit_pre3 HF.out HL.out 7 _ (by decide) HL.out.nums)).mono ?_
  rintro e w9 ⟨rfl, v8, hw, ht⟩
  skip
  have H8 : Hid (Wr 97 w9 g v8 (pre r 8)) := Lib.hid hw
  have T8 := Lib.hid (T7.out.trans ht)
  clear hw ht q7 H7 T7
  have q8 : w9.cell? ⟨w.heap.size, 8, none⟩ = some (.int .u64 (n8 : Int)) := by have := (K1.out.frm T8.out.1 (fun h => by have := own_none HG.out h; have := Z0.out; omega)).cell 8; rw [this, ← K8.out]; rfl
  go_wp2_with fail
  refine (uintR_any g v8 _ n8 _ H8.out (by rw [N8.out]; exact n64_key HF.out.key) (fit_pre HF.out HL.out 8 10 (by decide) (by decide))).mono ?_
  rintro e w10 ⟨rfl, v9, hw, ht⟩
  rw [N8.out] at hw
  have H9 : Hid (Wr 97 w10 g v9 (pre r 9)) := Lib.hid hw
  have T9 := Lib.hid (T8.out.trans ht)
  clear hw ht q8 H8 T8
  have q9 : w10.cell? ⟨w.heap.size, 9, none⟩ = some (.int .u64 (n9 : Int)) := by have := (K1.out.frm T9.out.1 (fun h => by have := own_none HG.out h; have := Z0.out; omega)).cell 9; rw [this, ← K9.out]; rfl
  go_wp2_with fail
  refine (uintR_any g v9 _ n9 _ H9.out (by rw [N9.out]; exact n64_key HF.out.nonce) (fit_pre HF.out HL.out 9 10 (by decide) (by decide))).mono ?_
  rintro e w11 ⟨rfl, v10, hw, ht⟩
  rw [N9.out] at hw
  have H10 : Hid (Wr 97 w11 g v10 (pre r 10)) := Lib.hid hw
  have T10 := Lib.hid (T9.out.trans ht)
  clear hw ht q9 H9 T9
  have q10 : w11.cell? ⟨w.heap.size, 10, none⟩ = some (.string r.ticket) := (K1.out.frm T10.out.1 (fun h => by have := own_none HG.out h; have := Z0.out; omega)).cell 10
  go_wp2_with fail
  refine (wtextR_any g v10 _ r.ticket _ H10.out (Nat.le_trans HL.out.ticket (by decide)) (fit_pre2 HF.out HL.out 10 _ (by decide) HL.out.ticket)).mono ?_
  rintro e w12 ⟨rfl, v11, hw, ht⟩
  skip
  have H11 : Hid (Wr 97 w12 g v11 (pre r 11)) := Lib.hid hw
  have T11 := Lib.hid (T10.out.trans ht)
  clear hw ht q10 H10 T10
  have q11 : w12.cell? ⟨w.heap.size, 11, none⟩ = some (.slice A11 r.amts.length c11) := (K1.out.frm T11.out.1 (fun h => by have := own_none HG.out h; have := Z0.out; omega)).cell 11
  go_wp2_with fail
  refine (wintsR_any g v11 _ r.amts A11 _ c11 _ H11.out (HS11.out.below (T11.out.below_old HG.out Z0.out B1.out) (Nat.le_refl _)) (fun h a ha ho => absurd (sl_old HS11.out h a ha) (Nat.not_lt.2 (own_new (Nat.le_trans (Nat.le_of_lt Z0.out) HG.out) B1.out.size T11.out ho))) HF.out.amts (Nat.le_trans HL.out.amts (by decide)) (fit_pre3 HF.out HL.out 11 _ (by decide) HL.out.amts)).mono ?_
  rintro e w13 ⟨rfl, v12, hw, ht⟩
  skip
  have H12 : Hid (Wr 97 w13 g v12 (pre r 12)) := Lib.hid hw
  have T12 := Lib.hid (T11.out.trans ht)
  clear hw ht q11 H11 T11
  go_wp2_with fail
  refine (wbytesR_any g v12 _ _ H12.out (fit_pre HF.out HL.out 12 0 (by decide) (by decide))).mono ?_
  rintro e w14 ⟨x, rfl, ho, hk, hb⟩
  have BB := Lib.hid (T12.out.below_old HG.out Z0.out B1.out)
  have HR : Hid (RetBytes (enc r) w (.returned x) w14) := Lib.hid ⟨x, rfl, ho, fun k hk2 => Nat.le_trans BB.out.size (hk k hk2), BB.out.trans (hb.mono BB.out.size)⟩
  clear ho hk hb
  go_wp2_with fail
  go_ret
  exact HR.out
end Go.Proofs.Ythpmngdpgniehaa.Jr
