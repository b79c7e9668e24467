/-
  The walk of the journal's Append. Conditions: the object lies in memory; the record lies in memory, apart from the object.
-/
import Derived.Test.YthpmngdpgniehaaJrW1
namespace Go.Proofs.Ythpmngdpgniehaa.Jr
open Go.RowKit Go.Proofs.Ythpmngdpgniehaa.Mem Go.Proofs.Ythpmngdpgniehaa.Wr Go.Proofs.Ythpmngdpgniehaa.Opn
attribute [local go_sem ↓] exec_load_rec exec_store_rec

theorem rec_info : (Try.prog.info? 27).map (fun i => (i.zero, i.size, i.bytes)) = some (some (.agg zeroRec), 12, 152) := by kernel_rfl
set_option maxRecDepth 100000 in
set_option maxHeartbeats 2000000 in
theorem append_no (F : Nat → Prop) (g : Nat) (v : Value) (rs : List Rec) (h : Int) (r : Rec) (cs : Array Value) (w : World) (hj : Jo F w g v rs h) (hr : IsRec w cs r) (hn : rs.length < 4096) (hw : withinB r = false) :
    Calls Try.prog 13 #[.pointer (some ⟨g, 0, none⟩), .agg cs] w (JoPost F g rs h (.tuple #[.int .i64 0, .int .i64 3]) w) := by
  obtain ⟨A, c, hv, _, _⟩ := hj.2.2.2.form
  subst hv
  have HO := Lib.hid hj
  obtain ⟨W0, hW0⟩ : ∃ W0, W0 = w.alloc (.cells cs 27) := ⟨_, rfl⟩
  have BE : Hid (Below w.heap.size w W0) := by rw [hW0]; exact (Below.refl _ w).alloc (Nat.le_refl _) _
  have HR : Hid (IsRec W0 cs r) := hr.below BE.out (Nat.le_refl _)
  have q0 : W0.cell? ⟨g, 0, none⟩ = some (.slice A rs.length c) := by rw [hW0]; exact (hj.1.alloc _).cell 0
  have ld : (loadRow 27 (.pointer (some ⟨w.heap.size, 0, none⟩))).run Try.prog W0 = .ok (.agg cs) W0 := load_blk (by rw [hW0]; exact Blk.new _ _ _) (rec_size hr)
  have hn1 : (rs.length : Int) < 4096 := by omega
  have tn : decide (4096 ≤ rs.length) = false := by simp; omega
  have HY := Lib.hid hw
  obtain ⟨A7, c7, A11, c11, hlit, _⟩ := hr
  have hW2 : W0 = w.alloc (.cells (recCells r A7 c7 A11 c11) 27) := by rw [hW0, hlit]
  rw [hlit]
  unfold recCells at hW2 ⊢
  rw [hW2] at q0 ld
  have HW := Lib.hid hW2
  clear hj hW0 hW2 hlit hw
  go_enter Try.func13, Try.ntmps13
  go_wp2_with fail
  rw [← HW.out]
  clear HW
  refine (within_any r cs _ HR.out).mono ?_
  rintro e w1 ⟨rfl, b1⟩
  rw [HY.out]
  have EE := Lib.hid (jo_same (x := .tuple #[.int .i64 0, .int .i64 3]) HO.out (BE.out.trans (b1.mono BE.out.size)))
  clear q0 ld b1
  go_wp2_with fail
  go_ret2
  exact EE.out
set_option maxRecDepth 100000 in
set_option maxHeartbeats 8000000 in
theorem append_yes (F : Nat → Prop) (g : Nat) (v : Value) (rs : List Rec) (h : Nat) (r : Rec) (cs : Array Value) (w : World) (hj : Jo F w g v rs (h : Int)) (hr : IsRec w cs r) (hd : Lst (fun i => ¬ F i) cs) (hn : rs.length < 4096) (hg : Good r) :
    Calls Try.prog 13 #[.pointer (some ⟨g, 0, none⟩), .agg cs] w (JoPost F g (rs ++ [r]) ((hashN h (enc r) : Nat) : Int) (.tuple #[.int .i64 (rs.length : Int), .int .i64 0]) w) := by
  obtain ⟨i0, hi0, hz0, hz1, hz2⟩ := info_parts rec_info
  obtain ⟨A, c, hv, _, _⟩ := hj.2.2.2.form
  subst hv
  have HO := Lib.hid hj
  have HD := Lib.hid hd
  have HG := Lib.hid hg
  have HN := Lib.hid (Nat.le_trans hg.2.nums (by decide : 256 ≤ 5000))
  have HA := Lib.hid (Nat.le_trans hg.2.amts (by decide : 256 ≤ 5000))
  have HH := Lib.hid (hashN_eq h (enc r))
  have HL := Lib.hid (enc_len hg)
  obtain ⟨W0, hW0⟩ : ∃ W0, W0 = w.alloc (.cells cs 27) := ⟨_, rfl⟩
  have BE : Hid (Below w.heap.size w W0) := by rw [hW0]; exact (Below.refl _ w).alloc (Nat.le_refl _) _
  have HJ : Hid (Jo F W0 g (.slice A rs.length c) rs (h : Int)) := hj.below BE.out
  have KB : Hid (Blk W0 w.heap.size 27 cs) := by rw [hW0]; exact Blk.new _ _ _
  have HR : Hid (IsRec W0 cs r) := hr.below BE.out (Nat.le_refl _)
  have q0 : W0.cell? ⟨g, 0, none⟩ = some (.slice A rs.length c) := HJ.out.1.cell 0
  have ld : (loadRow 27 (.pointer (some ⟨w.heap.size, 0, none⟩))).run Try.prog W0 = .ok (.agg cs) W0 := load_blk KB.out (rec_size hr)
  have hn1 : (rs.length : Int) < 4096 := by omega
  have tn : decide (4096 ≤ rs.length) = false := by simp; omega
  have HY : Hid (withinB r = true) := (within_iff r).2 hg.2
  have HS := Lib.hid (rec_size hr)
  obtain ⟨A7, c7, A11, c11, hlit, _⟩ := hr
  have hW2 : W0 = w.alloc (.cells (recCells r A7 c7 A11 c11) 27) := by rw [hW0, hlit]
  rw [hlit]
  unfold recCells at hW2 ⊢
  rw [hW2] at q0 ld
  have HW := Lib.hid hW2
  clear hj hW0 hW2 hlit hg hd
  go_enter Try.func13, Try.ntmps13
  go_wp2_with fail
  rw [← HW.out]
  clear HW
  refine (within_any r cs _ HR.out).mono ?_
  rintro e w1 ⟨rfl, b1⟩
  rw [HY.out]
  have HJ1 := Lib.hid (HJ.out.below b1)
  have KB1 := Lib.hid (KB.out.below b1 KB.out.lt)
  have HR1 := Lib.hid (HR.out.below b1 (Nat.le_refl _))
  have BE1 := Lib.hid (BE.out.trans (b1.mono BE.out.size))
  have q1 : w1.cell? ⟨g, 0, none⟩ = some (.slice A rs.length c) := HJ1.out.1.cell 0
  obtain ⟨xs, L, hx⟩ := HJ1.out.2.2.2
  have HX := Lib.hid hx
  clear q0 ld b1 HJ HR KB BE hx
  go_wp2_with fail
  clear q1
  have qa : w1.drew.cell? ⟨g, 0, none⟩ = some (.slice A rs.length c) := HJ1.out.1.cell 0
  have la : (loadRow 27 (.pointer (some ⟨w.heap.size, 0, none⟩))).run Try.prog w1.drew = .ok (.agg cs) w1.drew := load_blk KB1.out.drew HS.out
  go_region_law (first
    | (refine step_append_sl _ (by rfl) (.tmp 29) (.tmp 32) 29 (by rfl) 27 i0 (.agg zeroRec) 12 152 Try.underlying29 hi0 hz0 hz1 hz2 rfl (by decide) (.slice A rs.length c) rs.length xs (by rfl) (own_frm HX.out.1 ((Frm.of_below (F := fun _ => False) ((Below.refl _ w1).drew.trans b2) (fun i hi hg => absurd hg (by simp; omega))).alloc _) (fun _ _ g => g)) _ 1 1 (recCells r B7 d7 B11 d11).toList (by rfl) (new_row _ _ _ rfl rfl) (rec_ones id2) (by unfold maxLen; omega) (by omega) ?_; intro v2 w3 hown3 hg3 hat3; obtain ⟨A3, c3, rfl, s3⟩ := own_form hown3; have k3 : Hid (Blk w3 g 58 #[.slice A rs.length c, .int .u64 (h : Int)]) := Lib.hid (((HJ1.out.1.drew.below b2 HJ1.out.1.lt).alloc _).grown hg3 (own_apart HX.out.1 HJ1.out.1 (by decide))); have c3' := k3.out.cell 0; have f3' := k3.out.frozen 0)
    | (go_simp; go_at_call 37; refine (clone_any r cs _ (by exact HR1.out.keep fun _ _ => rfl) HN.out HA.out).mono ?_; rintro e w2 ⟨ds, rfl, id2, b2, ls⟩; have id3 := id2; obtain ⟨B7, d7, B11, d11, hds, _⟩ := id3; subst hds; unfold recCells; have k2 : w2.cell? ⟨g, 0, none⟩ = some (.slice A rs.length c) := (HJ1.out.1.drew.below b2 HJ1.out.1.lt).cell 0; have k2b : (w2.alloc (.cells #[.int .i64 r.k0, .int .i64 r.k1, .int .i64 r.k2, .int .i64 r.k3, .int .i64 r.k4, .string r.name, .string r.text, .slice B7 r.nums.length d7, .int .u64 r.key, .int .u64 r.nonce, .string r.ticket, .slice B11 r.amts.length d11] 27)).cell? ⟨g, 0, none⟩ = some (.slice A rs.length c) := ((HJ1.out.1.drew.below b2 HJ1.out.1.lt).alloc _).cell 0))
  all_goals
    obtain ⟨F1, j1, f1, n1⟩ := jo_store HJ1.out HX.out ((Frm.of_below (F := fun _ => False) ((Below.refl _ w1).drew.trans b2) (fun i hi hg => absurd hg (by simp; omega))).alloc _) (id2.below ((Below.refl _ w2).alloc (Nat.le_refl _) _) (Nat.le_refl _)) rfl ls hg3 hat3 hown3
    have HJ3 := Lib.hid j1
    have HF3 : Hid (Frm F w _) := Lib.hid ((Frm.of_below (F := F) BE1.out (fun i hi hg => by omega)).trans f1 (fun _ _ h => h))
    have KB3 := Lib.hid (KB1.out.frm f1 (fun e => by have := HO.out.2.2.1 _ e; omega))
    have HR3 := Lib.hid (rec_frm HR1.out f1 HD.out (fun i hi e => hi e))
    have N3 : Hid (∀ i, F1 i → F i ∨ w.heap.size ≤ i) := Lib.hid (fun i hi => (n1 i hi).imp id (fun e => Nat.le_trans BE1.out.size e))
    clear qa la k2 k2b hown3 hg3 hat3 s3 k3 c3' f3' id2 ls b2 j1 f1 n1 HX HJ1 KB1 HR1
    generalize w3.setCell ⟨g, 0, none⟩ (.slice A3 (rs.length + 1) c3) = W3 at *
    go_wp2_with fail
    have q7 : W3.drew.cell? ⟨g, 1, none⟩ = some (.int .u64 (h : Int)) := HJ3.out.1.cell 1
    have l7 : (loadRow 27 (.pointer (some ⟨w.heap.size, 0, none⟩))).run Try.prog W3.drew = .ok (.agg cs) W3.drew := load_blk KB3.out.drew HS.out
    have HC : Hid (Dg.chainI (h : Int) (⟨(enc r).toArray⟩ : ByteArray).data.toList = ((hashN h (enc r) : Nat) : Int)) := HH.out
    go_region_law (first
      | (go_simp; go_at_call 19; refine (encode_any r cs _ (by exact HR3.out.keep fun _ _ => rfl) HG.out.1 HG.out.2.lim).mono ?_; rintro e w4 ⟨v4, rfl, o4, nw4, b4⟩; obtain ⟨A4, c4, rfl, s4⟩ := own_form o4; have cv : (convert 40 9 (.slice A4 (enc r).length c4)).run Try.prog w4 = .ok (.string ⟨(enc r).toArray⟩) w4 := run_string_sl _ _ _ Try.underlying40 Try.underlying5 Try.underlying9 s4 _; have k4 : w4.cell? ⟨g, 1, none⟩ = some (.int .u64 (h : Int)) := (HJ3.out.1.drew.below b4 HJ3.out.1.lt).cell 1; have z4 : w4.frozen? ⟨g, 1, none⟩ = false := (HJ3.out.1.drew.below b4 HJ3.out.1.lt).frozen 1)
      | (go_simp; go_at_call 38; refine (Dg.chain_any _ _ _ (by have := HL.out; unfold maxLen; show (enc r).toArray.size ≤ _; simp; omega)).mono ?_; rintro e w5 ⟨rfl, rfl⟩; rw [HC.out]))
    all_goals
      have E5 := jo_hash (h2 := ((hashN h (enc r) : Nat) : Int)) (HJ3.out.below ((Below.refl _ W3).drew.trans b4))
      have EE : Hid (JoPost F g (rs ++ [r]) ((hashN h (enc r) : Nat) : Int) (.tuple #[.int .i64 (rs.length : Int), .int .i64 0]) w _ _) := Lib.hid ⟨rfl, F1, _, E5.1, (HF3.out.trans (Frm.of_below (F := F) ((Below.refl _ W3).drew.trans b4) (fun i hi hg => absurd hg (by simp; omega))) (fun _ _ h => h)).trans E5.2 (fun i _ e => by rw [e]; exact HO.out.2.1), N3.out⟩
      clear E5 q7 l7 b4 s4 o4 nw4 cv k4 z4 HC HJ3 HF3 KB3 HR3 N3
      go_wp2_with fail
      go_ret2
      exact EE.out
/-- what Append does. -/
theorem append_any (F : Nat → Prop) (g : Nat) (v : Value) (rs : List Rec) (h : Nat) (r : Rec) (cs : Array Value) (w : World) (hj : Jo F w g v rs (h : Int)) (hr : IsRec w cs r) (hd : Lst (fun i => ¬ F i) cs) (hn : rs.length < 4096) (hf : RecFit r) :
    Calls Try.prog 13 #[.pointer (some ⟨g, 0, none⟩), .agg cs] w
      (JoPost F g (if withinB r then rs ++ [r] else rs) ((if withinB r then hashN h (enc r) else h : Nat) : Int) (if withinB r then .tuple #[.int .i64 (rs.length : Int), .int .i64 0] else .tuple #[.int .i64 0, .int .i64 3]) w) := by
  by_cases hw : withinB r = true
  · simpa [hw] using append_yes F g v rs h r cs w hj hr hd hn ⟨hf, (within_iff r).1 hw⟩
  · have hw' : withinB r = false := by simpa using hw
    simpa [hw'] using append_no F g v rs (h : Int) r cs w hj hr hn hw'
end Go.Proofs.Ythpmngdpgniehaa.Jr
