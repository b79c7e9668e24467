/-
  The walks of receipts: the reference's part and Part; Sign and Encode of both. Conditions: texts of at most 100000 bytes; numbers of their kinds.
-/
import Derived.Test.YtjnaooiklcbemaaRtB
import Derived.Test.YtjnaooiklcbemaaWrV2
import Derived.Test.YtjnaooiklcbemaaDgWalks
namespace Go.Proofs.Ytjnaooiklcbemaa.Rt
open Go.RowKit Go.Proofs.Ytjnaooiklcbemaa.Mem Go.Proofs.Ytjnaooiklcbemaa.Wr Go.Proofs.Ytjnaooiklcbemaa.Dg
attribute [local go_sem ↓] exec_load_rc exec_store_rc

set_option maxRecDepth 100000 in
set_option maxHeartbeats 2000000 in
theorem partR_any (r : Rc) (w : World) (hl : r.lim) (ho : r.ok) :
    Calls Try.prog 30 #[.agg r.cells] w (NewWr 75 r.part w) := by
  have HL := Lib.hid hl
  have HO := Lib.hid ho
  obtain ⟨W, hW⟩ : ∃ W, W = w.alloc (.cells r.cells 24) := ⟨_, rfl⟩
  have KB : Hid (Blk W w.heap.size 24 r.cells) := by rw [hW]; exact Blk.new _ _ _
  have B0 : Hid (Below w.heap.size w W) := by rw [hW]; exact (Below.refl _ _).alloc (Nat.le_refl _) _
  have Z0 : Hid (w.heap.size < W.heap.size) := by rw [hW]; show _ < _; simp
  have HW : Hid (W = w.alloc (.cells #[.string r.num, .string r.game, .string r.slip, .int .i64 r.first, .int .i64 r.price, .int .i64 r.date, .int .u64 (r.sign : Int)] 24)) := hW
  clear hW hl ho
  unfold Rc.cells
  go_enter Try.func30, Try.ntmps30
  go_wp2_with fail
  rw [← HW.out]
  refine (newWriterR_any _).mono ?_
  rintro e w1 ⟨g, rfl, hg, hw1, hb1⟩
  have H0 := Lib.hid hw1
  have B1 := Lib.hid hb1
  have K1 : Hid (Blk w1 w.heap.size 24 r.cells) := KB.out.below hb1 Z0.out
  have HG := Lib.hid hg
  have T0 : Hid (WrTo g (.slice none 0 0) (.slice none 0 0) w1 w1) := WrTo.refl _ _ _
  have q0 : w1.cell? ⟨w.heap.size, 0, none⟩ = some (.string r.num) := K1.out.cell 0
  clear hg hw1 hb1
  go_wp2_with fail
  refine (wtextR_any g (.slice none 0 0) _ r.num _ H0.out (by have := HL.out.num; omega) (fit_of (by have := pre3_len HL.out 0; simp only [pre3] at this; have := HL.out.num; omega))).mono ?_
  rintro e w2 ⟨rfl, v1, hw, ht⟩
  have H1 := Lib.hid hw
  have T1 := Lib.hid (T0.out.trans ht)
  clear hw ht
  have q1 : w2.cell? ⟨w.heap.size, 1, none⟩ = some (.string r.game) := (K1.out.frm T1.out.1 (fun h => by have := own0 HG.out h; have := Z0.out; omega)).cell 1
  go_wp2_with fail
  refine (wtextR_any g v1 _ r.game _ H1.out (by have := HL.out.game; omega) (fit_of (by have := pre3_len HL.out 1; simp only [pre3] at this; have := HL.out.game; omega))).mono ?_
  rintro e w3 ⟨rfl, v2, hw, ht⟩
  have H2 := Lib.hid hw
  have T2 := Lib.hid (T1.out.trans ht)
  clear hw ht
  have q2 : w3.cell? ⟨w.heap.size, 2, none⟩ = some (.string r.slip) := (K1.out.frm T2.out.1 (fun h => by have := own0 HG.out h; have := Z0.out; omega)).cell 2
  go_wp2_with fail
  refine (wtextR_any g v2 _ r.slip _ H2.out (by have := HL.out.slip; omega) (fit_of (by have := pre3_len HL.out 2; simp only [pre3] at this; have := HL.out.slip; omega))).mono ?_
  rintro e w4 ⟨rfl, v3, hw, ht⟩
  have H3 := Lib.hid hw
  have T3 := Lib.hid (T2.out.trans ht)
  clear hw ht
  have q3 : w4.cell? ⟨w.heap.size, 3, none⟩ = some (.int .i64 r.first) := (K1.out.frm T3.out.1 (fun h => by have := own0 HG.out h; have := Z0.out; omega)).cell 3
  go_wp2_with fail
  refine (wintR_any g v3 _ r.first _ H3.out (i64_of HO.out.first) (fit_of (by have := pre6_len HL.out HO.out 0; simp only [pre6, pre3] at this; omega))).mono ?_
  rintro e w5 ⟨rfl, v4, hw, ht⟩
  have H4 := Lib.hid hw
  have T4 := Lib.hid (T3.out.trans ht)
  clear hw ht
  have q4 : w5.cell? ⟨w.heap.size, 4, none⟩ = some (.int .i64 r.price) := (K1.out.frm T4.out.1 (fun h => by have := own0 HG.out h; have := Z0.out; omega)).cell 4
  go_wp2_with fail
  refine (wintR_any g v4 _ r.price _ H4.out (i64_of HO.out.price) (fit_of (by have := pre6_len HL.out HO.out 1; simp only [pre6, pre3] at this; omega))).mono ?_
  rintro e w6 ⟨rfl, v5, hw, ht⟩
  have H5 := Lib.hid hw
  have T5 := Lib.hid (T4.out.trans ht)
  clear hw ht
  have q5 : w6.cell? ⟨w.heap.size, 5, none⟩ = some (.int .i64 r.date) := (K1.out.frm T5.out.1 (fun h => by have := own0 HG.out h; have := Z0.out; omega)).cell 5
  go_wp2_with fail
  refine (wintR_any g v5 _ r.date _ H5.out (i64_of HO.out.date) (fit_of (by have := pre6_len HL.out HO.out 2; simp only [pre6, pre3] at this; omega))).mono ?_
  rintro e w7 ⟨rfl, v6, hw, ht⟩
  have H6 := Lib.hid hw
  have T6 := Lib.hid (T5.out.trans ht)
  clear hw ht
  go_wp2_with fail
  go_ret
  exact newWr_end (Nat.le_trans (Nat.le_of_lt Z0.out) HG.out) (B0.out.trans (B1.out.mono (Nat.le_of_lt Z0.out))) H6.out T6.out

set_option maxRecDepth 100000 in
set_option maxHeartbeats 1000000 in
theorem sign_any (key : Int) (r : Rc) (w : World) (hk : U64 key) (hl : r.lim) (ho : r.ok) :
    Calls Try.prog 12 #[.int .u64 key, .agg r.cells] w fun e w' => e = .returned (.int .u64 (r.signI key)) ∧ Below w.heap.size w w' := by
  obtain ⟨cs, HC⟩ : ∃ cs, Hid (cs = r.cells) := ⟨_, rfl⟩
  have CS : Hid (∀ W, Calls Try.prog 25 #[.agg cs] W (NewWr 70 r.part W)) := by rw [HC.out]; exact fun W => signed_any r W hl ho
  have L : (loadRow 24 (.pointer (some ⟨w.heap.size, 0, none⟩))).run Try.prog (w.alloc (.cells cs 24)) = .ok (.agg cs) (w.alloc (.cells cs 24)) := load_rc (Blk.new _ _ _) (by rw [HC.out]; rfl)
  have HP : Hid (r.part.length ≤ 300060) := part_le hl ho
  rw [← HC.out]
  have HK := Lib.hid hk
  clear hl ho hk
  go_enter Try.func12, Try.ntmps12
  go_wp2_with fail
  refine (CS.out _).mono ?_
  rintro e w1 ⟨g, v, rfl, hw1, ho1, b1⟩
  have H1 := Lib.hid hw1
  have B1 : Hid (Below w.heap.size w w1) := ((Below.refl _ w).alloc (Nat.le_refl _) _).trans (b1.mono (by simp))
  have O1 := Lib.hid ho1
  clear hw1 ho1 b1 L
  go_wp2_with fail
  refine (wbytes_any g v r.part _ H1.out (fit_of (by have := HP.out; omega))).mono ?_
  rintro e w2 ⟨v2, rfl, o2, f2, b2⟩
  obtain ⟨A2, c2, rfl, s2⟩ := own_form o2
  have B2 := Lib.hid (B1.out.trans (b2.mono B1.out.size))
  have cv := run_string_sl (P := Try.prog) (w := w2) 38 9 5 Try.underlying38 Try.underlying5 Try.underlying9 s2 c2
  clear o2 f2 b2 s2
  go_wp2_with fail
  clear cv
  refine (keyed_any key ⟨r.part.toArray⟩ _ HK.out (by have := HP.out; show r.part.length ≤ _; unfold maxLen; omega)).mono ?_
  rintro e w' ⟨rfl, rfl⟩
  go_wp2_with fail
  go_ret
  exact ⟨rfl, B2.out⟩

set_option maxRecDepth 100000 in
set_option maxHeartbeats 1000000 in
theorem partS_any (r : Rc) (w : World) (hl : r.lim) (ho : r.ok) :
    Calls Try.prog 28 #[.agg r.cells] w fun e w' => e = .returned (.string ⟨r.part.toArray⟩) ∧ Below w.heap.size w w' := by
  obtain ⟨cs, HC⟩ : ∃ cs, Hid (cs = r.cells) := ⟨_, rfl⟩
  have CS : Hid (∀ W, Calls Try.prog 30 #[.agg cs] W (NewWr 75 r.part W)) := by rw [HC.out]; exact fun W => partR_any r W hl ho
  have L : (loadRow 24 (.pointer (some ⟨w.heap.size, 0, none⟩))).run Try.prog (w.alloc (.cells cs 24)) = .ok (.agg cs) (w.alloc (.cells cs 24)) := load_rc (Blk.new _ _ _) (by rw [HC.out]; rfl)
  have HP : Hid (r.part.length ≤ 300060) := part_le hl ho
  rw [← HC.out]
  clear hl ho
  go_enter Try.func28, Try.ntmps28
  go_wp2_with fail
  refine (CS.out _).mono ?_
  rintro e w1 ⟨g, v, rfl, hw1, ho1, b1⟩
  have H1 := Lib.hid hw1
  have B1 : Hid (Below w.heap.size w w1) := ((Below.refl _ w).alloc (Nat.le_refl _) _).trans (b1.mono (by simp))
  have O1 := Lib.hid ho1
  clear hw1 ho1 b1 L
  go_wp2_with fail
  refine (wbytesR_any g v r.part _ H1.out (fit_of (by have := HP.out; omega))).mono ?_
  rintro e w2 ⟨v2, rfl, o2, f2, b2⟩
  obtain ⟨A2, c2, rfl, s2⟩ := own_form o2
  have B2 := Lib.hid (B1.out.trans (b2.mono B1.out.size))
  have cv := run_string_sl (P := Try.prog) (w := w2) 38 9 5 Try.underlying38 Try.underlying5 Try.underlying9 s2 c2
  clear o2 f2 b2 s2
  go_wp2_with fail
  go_ret
  exact ⟨rfl, B2.out⟩

/-- a call that hands back this, and writes nothing that was there. -/
def Ret (v : Value) (w : World) (e : Ending) (w' : World) : Prop := e = .returned v ∧ Below w.heap.size w w'
set_option maxRecDepth 100000 in
set_option maxHeartbeats 1000000 in
theorem signR_any (key : Int) (r : Rc) (w : World) (hk : U64 key) (hl : r.lim) (ho : r.ok) :
    Calls Try.prog 13 #[.int .u64 key, .agg r.cells] w fun e w' => e = .returned (.int .u64 (r.signI key)) ∧ Below w.heap.size w w' := by
  obtain ⟨cs, HC⟩ : ∃ cs, Hid (cs = r.cells) := ⟨_, rfl⟩
  have CS : Hid (∀ W, Calls Try.prog 28 #[.agg cs] W (Ret (.string ⟨r.part.toArray⟩) W)) := by rw [HC.out]; exact fun W => partS_any r W hl ho
  have L : (loadRow 24 (.pointer (some ⟨w.heap.size, 0, none⟩))).run Try.prog (w.alloc (.cells cs 24)) = .ok (.agg cs) (w.alloc (.cells cs 24)) := load_rc (Blk.new _ _ _) (by rw [HC.out]; rfl)
  have HP : Hid (r.part.length ≤ 300060) := part_le hl ho
  rw [← HC.out]
  have HK := Lib.hid hk
  clear hl ho hk
  go_enter Try.func13, Try.ntmps13
  go_wp2_with fail
  refine (CS.out _).mono ?_
  rintro e w1 ⟨rfl, b1⟩
  have B1 : Hid (Below w.heap.size w w1) := ((Below.refl _ w).alloc (Nat.le_refl _) _).trans (b1.mono (by simp))
  clear b1 L
  go_wp2_with fail
  refine (keyedR_any key ⟨r.part.toArray⟩ _ HK.out (by have := HP.out; show r.part.length ≤ _; unfold maxLen; omega)).mono ?_
  rintro e w' ⟨rfl, rfl⟩
  go_wp2_with fail
  go_ret
  exact ⟨rfl, B1.out⟩

set_option maxRecDepth 100000 in
set_option maxHeartbeats 1000000 in
theorem encode_any (r : Rc) (w : World) (hl : r.lim) (ho : r.ok) :
    Calls Try.prog 18 #[.agg r.cells] w (RetBytes r.enc w) := by
  obtain ⟨cs, HC⟩ : ∃ cs, Hid (cs = r.cells) := ⟨_, rfl⟩
  have CS : Hid (∀ W, Calls Try.prog 25 #[.agg cs] W (NewWr 70 r.part W)) := by rw [HC.out]; exact fun W => signed_any r W hl ho
  have L : (loadRow 24 (.pointer (some ⟨w.heap.size, 0, none⟩))).run Try.prog (w.alloc (.cells cs 24)) = .ok (.agg cs) (w.alloc (.cells cs 24)) := load_rc (Blk.new _ _ _) (by rw [HC.out]; rfl)
  have HP : Hid (r.part.length ≤ 300060) := part_le hl ho
  rw [← HC.out]
  have HS : Hid (N64 r.sign) := ho.sign
  have HE : Hid (r.enc.length ≤ 300070) := by
    have h1 := part_le hl ho
    have h2 := uv_len64 ho.sign
    show (r.part ++ uv r.sign).length ≤ _
    rw [List.length_append]
    omega
  have hsg : cs[6]? = some (.int .u64 (r.sign : Int)) := by rw [HC.out]; rfl
  have HSG := Lib.hid hsg
  have HZ : Hid (Blk (w.alloc (.cells cs 24)) w.heap.size 24 cs) := Blk.new _ _ _
  clear hl ho hsg
  go_enter Try.func18, Try.ntmps18
  go_wp2_with fail
  refine (CS.out _).mono ?_
  rintro e w1 ⟨g, v, rfl, hw1, ho1, b1⟩
  have H1 := Lib.hid hw1
  have B1 : Hid (Below w.heap.size w w1) := ((Below.refl _ w).alloc (Nat.le_refl _) _).trans (b1.mono (by simp))
  have O1 : Hid (∀ k, own g v k → w.heap.size ≤ k) := fun k hk => Nat.le_trans (by simp) (ho1 k hk)
  have q6 : w1.cell? ⟨w.heap.size, 6, none⟩ = some (.int .u64 (r.sign : Int)) := ((HZ.out.below b1 (by simp)).cell 6).trans HSG.out
  clear hw1 ho1 b1 L
  go_wp2_with fail
  refine (uint_any g v r.part r.sign _ H1.out HS.out (fit_of (by have := HP.out; omega))).mono ?_
  rintro e w2 ⟨rfl, v2, hw2, ht2⟩
  have H2 : Hid (Wr 70 w2 g v2 r.enc) := hw2
  have B2 : Hid (Below w.heap.size w w2) := B1.out.trans (ht2.below B1.out.size O1.out)
  clear hw2 ht2
  go_wp2_with fail
  refine (wbytes_any g v2 r.enc _ H2.out (fit_of (by have := HE.out; omega))).mono ?_
  rintro e w3 ⟨v3, rfl, o3, f3, b3⟩
  have O3 := Lib.hid o3
  have F3 : Hid (∀ k, v3.ownBlock = some k → w.heap.size ≤ k) := fun k hk => Nat.le_trans B2.out.size (f3 k hk)
  have B3 := Lib.hid (B2.out.trans (b3.mono B2.out.size))
  clear o3 f3 b3
  go_wp2_with fail
  go_ret
  exact ⟨_, rfl, O3.out, F3.out, B3.out⟩

set_option maxRecDepth 100000 in
set_option maxHeartbeats 1000000 in
theorem encodeR_any (r : Rc) (w : World) (hl : r.lim) (ho : r.ok) :
    Calls Try.prog 19 #[.agg r.cells] w (RetBytes r.enc w) := by
  obtain ⟨cs, HC⟩ : ∃ cs, Hid (cs = r.cells) := ⟨_, rfl⟩
  have CS : Hid (∀ W, Calls Try.prog 30 #[.agg cs] W (NewWr 75 r.part W)) := by rw [HC.out]; exact fun W => partR_any r W hl ho
  have L : (loadRow 24 (.pointer (some ⟨w.heap.size, 0, none⟩))).run Try.prog (w.alloc (.cells cs 24)) = .ok (.agg cs) (w.alloc (.cells cs 24)) := load_rc (Blk.new _ _ _) (by rw [HC.out]; rfl)
  have HP : Hid (r.part.length ≤ 300060) := part_le hl ho
  rw [← HC.out]
  have HS : Hid (N64 r.sign) := ho.sign
  have HE : Hid (r.enc.length ≤ 300070) := by
    have h1 := part_le hl ho
    have h2 := uv_len64 ho.sign
    show (r.part ++ uv r.sign).length ≤ _
    rw [List.length_append]
    omega
  have hsg : cs[6]? = some (.int .u64 (r.sign : Int)) := by rw [HC.out]; rfl
  have HSG := Lib.hid hsg
  have HZ : Hid (Blk (w.alloc (.cells cs 24)) w.heap.size 24 cs) := Blk.new _ _ _
  clear hl ho hsg
  go_enter Try.func19, Try.ntmps19
  go_wp2_with fail
  refine (CS.out _).mono ?_
  rintro e w1 ⟨g, v, rfl, hw1, ho1, b1⟩
  have H1 := Lib.hid hw1
  have B1 : Hid (Below w.heap.size w w1) := ((Below.refl _ w).alloc (Nat.le_refl _) _).trans (b1.mono (by simp))
  have O1 : Hid (∀ k, own g v k → w.heap.size ≤ k) := fun k hk => Nat.le_trans (by simp) (ho1 k hk)
  have q6 : w1.cell? ⟨w.heap.size, 6, none⟩ = some (.int .u64 (r.sign : Int)) := ((HZ.out.below b1 (by simp)).cell 6).trans HSG.out
  clear hw1 ho1 b1 L
  go_wp2_with fail
  refine (uintR_any g v r.part r.sign _ H1.out HS.out (fit_of (by have := HP.out; omega))).mono ?_
  rintro e w2 ⟨rfl, v2, hw2, ht2⟩
  have H2 : Hid (Wr 75 w2 g v2 r.enc) := hw2
  have B2 : Hid (Below w.heap.size w w2) := B1.out.trans (ht2.below B1.out.size O1.out)
  clear hw2 ht2
  go_wp2_with fail
  refine (wbytesR_any g v2 r.enc _ H2.out (fit_of (by have := HE.out; omega))).mono ?_
  rintro e w3 ⟨v3, rfl, o3, f3, b3⟩
  have O3 := Lib.hid o3
  have F3 : Hid (∀ k, v3.ownBlock = some k → w.heap.size ≤ k) := fun k hk => Nat.le_trans B2.out.size (f3 k hk)
  have B3 := Lib.hid (B2.out.trans (b3.mono B2.out.size))
  clear o3 f3 b3
  go_wp2_with fail
  go_ret
  exact ⟨_, rfl, O3.out, F3.out, B3.out⟩
end Go.Proofs.Ytjnaooiklcbemaa.Rt
