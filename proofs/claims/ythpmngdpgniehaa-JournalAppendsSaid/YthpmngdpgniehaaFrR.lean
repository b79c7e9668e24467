/-
  The walks of the reference's Big, Frame and Next. Conditions: the bytes lie in memory; sizes that a machine holds.
-/
import Derived.Test.YthpmngdpgniehaaFr2
import Derived.Test.YthpmngdpgniehaaWrS
import Derived.Test.YthpmngdpgniehaaWrV2
namespace Go.Proofs.Ythpmngdpgniehaa.Wr
open Go.RowKit Go.Proofs.Ythpmngdpgniehaa.Mem
attribute [local go_sem ↓] exec_cut
attribute [local go_sem ↓] Go.wp_at_zero Go.wp_at_succ

theorem div_step (n k : Nat) : n / 256 ^ k / 256 = n / 256 ^ (k + 1) := by rw [Nat.pow_succ, Nat.div_div_eq_div_mul]
/-- what a round of Big has come to. -/
def BigRel (n k : Nat) (w : World) (v : Value) (wr : World) : Prop :=
  wr.ownsRow 0 5 1 v k (byts (bigG k n)) ∧ (∀ j, v.ownBlock = some j → w.heap.size ≤ j) ∧ Below w.heap.size w wr
theorem own_one (w : World) (c : UInt8) (e : Int) (h : e = (c.toNat : Int)) : (w.alloc (.cells #[.int .u8 e] 5)).ownsRow 0 5 1 (.slice (some ⟨w.heap.size, 0, none⟩) 1 1) 1 (byts [c]) :=
  ⟨rfl, .inr ⟨w.heap.size, 1, #[.int .u8 e], rfl, Nat.zero_le _, heap_alloc_new w _, Nat.le_refl _, by unfold maxLen; decide, rfl, by rw [h]; rfl⟩⟩
theorem big_step {n k : Nat} {w wr w1 : World} {v1 : Value} {e : Int} (h3 : Below w.heap.size w wr)
    (g1 : w1.ownsRow 0 5 1 v1 (1 + k) (byts [UInt8.ofNat (n / 256 ^ k % 256)] ++ byts (bigG k n))) (g2 : (wr.alloc (.cells #[.int .u8 e] 5)).grownBy w1 (some wr.heap.size))
    (g3 : v1.ownBlock = some wr.heap.size ∨ v1.ownBlock = some (wr.alloc (.cells #[.int .u8 e] 5)).heap.size) : BigRel n (k + 1) w v1 w1 := by
  refine ⟨?_, fun j hj => ?_, ?_⟩
  · rw [Nat.add_comm 1 k] at g1
    exact g1
  · have := h3.size
    rcases g3 with e | e
    · rw [e] at hj
      injection hj with hj
      omega
    · rw [e] at hj
      injection hj with hj
      simp at hj
      omega
  · exact (h3.alloc h3.size _).grown g2 (by have := h3.size; simp; omega) (fun j hj => by have := h3.size; injection hj with hj; omega)
set_option maxRecDepth 100000 in
set_option maxHeartbeats 2000000 in
theorem bigR_any (n : Nat) (w : World) (hn : N64 n) : Calls Try.prog 73 #[.int .u64 (n : Int)] w (RetBytes (big n) w) := by
  obtain ⟨i0, hi0, hz0, hz1, hz2⟩ := info_parts u8_info
  have HN := Lib.hid hn
  clear hn
  have HL := Lib.hid (big_len n)
  go_enter Try.func73, Try.ntmps73
  go_wp2_with fail
  go_loopw [0, 3, 4] (fun x v i wr => ∃ k : Nat, k ≤ 8 ∧ i = .int .i64 k ∧ x = .int .u64 ((n / 256 ^ k : Nat) : Int) ∧ Hid (BigRel n k w v wr)) (fun _ _ i _ => 8 - (intOf i).toNat)
  case atStart => exact ⟨0, by omega, rfl, by simp, ⟨World.ownsRow_nil _ _ _ _, (fun j hj => by cases hj), Below.refl _ _⟩⟩
  case round =>
    obtain ⟨k, hk, rfl, rfl, HREL⟩ := hrel
    obtain ⟨hown, hfr, hbel⟩ := HREL.out
    have K1 := Lib.hid hown
    have K3 := Lib.hid hbel
    obtain ⟨A1, c1, rfl, hs1⟩ := own_form hown
    have S1 := Lib.hid hs1
    clear hown hfr hbel hs1
    by_cases hlt : k < 8
    · have HD := Lib.hid (div_step n k)
      have H64 : Hid (N64 (n / 256 ^ k)) := HN.out.div
      have HB := Lib.hid (fun w1 v1 e => @big_step n k w wr w1 v1 e)
      generalize n / 256 ^ k = y at *
      have HY : Hid ((y : Int) % 256 = ((UInt8.ofNat (y % 256)).toNat : Int)) := by show _ = _; rw [toNat_small (by omega)]; omega
      have hw : IntKind.u64.wrap ((y : Int) / 256) = (y : Int) / 256 := by have := H64.out; unfold N64 at this; rw [IntKind.wrap_u64]; omega
      go_wp2_with (at_builtin; refine wpList_append_sl _ rfl (.tmp 12) (.tmp 13) 40 rfl 5 i0 (.int .u8 0) 1 1 Try.underlying40 hi0 hz0 hz1 hz2 rfl (by decide) (.slice (some ⟨wr.heap.size, 0, none⟩) 1 1) 1 (byts [UInt8.ofNat (y % 256)]) rfl (own_one _ _ _ HY.out) A1 k c1 (byts (bigG k n)) rfl (S1.out.alloc _) (byts_one _) (by unfold maxLen; omega) (by omega) ?_; intro v2 w2 hown2 hg2 hat2; have G1 := Lib.hid hown2; have G2 := Lib.hid hg2; have G3 := Lib.hid hat2; clear hown2 hg2 hat2)
      go_roundw
      case rel => exact ⟨k + 1, by omega, by go_num, by rw [← HD.out]; go_num, HB.out _ _ _ K3.out G1.out G2.out G3.out⟩
      case measure => simp [intOf]; omega
    · obtain rfl : k = 8 := by omega
      go_wp2_with fail
      go_ret
      have HREL2 := HREL.out
      exact ⟨_, rfl, by rw [HL.out]; exact HREL2.1, HREL2.2.1, HREL2.2.2⟩

set_option maxRecDepth 100000 in
set_option maxHeartbeats 2000000 in
theorem frameR_any (b : List UInt8) (A : Option Addr) (n c : Nat) (w : World) (hs : Sl w 1 A n (byts b)) (hn : n ≤ 1000000000) :
    Calls Try.prog 74 #[.slice A n c] w (RetBytes (frame b) w) := by
  obtain ⟨i0, hi0, hz0, hz1, hz2⟩ := info_parts u8_info
  have LN : Hid (b.length = n) := by show _ = _; simpa [byts_len] using hs.1
  have HS := Lib.hid hs
  have HN : Hid (N64 n) := by unfold N64; show _ < _; omega
  have HU : Hid ((uv n).length ≤ 10) := uv_len64 HN.out
  clear hs
  go_enter Try.func74, Try.ntmps74
  go_wp2_with fail
  refine (varintR_any n _ HN.out).mono ?_
  rintro e w1 ⟨v1, rfl, o1, fr1, b1⟩
  have F1 := Lib.hid fr1
  have B1 := Lib.hid b1
  have S1 := Lib.hid (HS.out.below b1 (Nat.le_refl _))
  clear fr1 b1
  go_wp2_with (at_builtin; refine wpList_append_sl _ rfl (.tmp 8) (.tmp 9) 40 rfl 5 i0 (.int .u8 0) 1 1 Try.underlying40 hi0 hz0 hz1 hz2 rfl (by decide) v1 (uv n).length (byts (uv n)) rfl o1 A n c (byts b) rfl S1.out (byts_one _) (by have := HU.out; unfold maxLen; omega) (by have := HU.out; omega) ?_; intro v2 w2 hown2 hg2 hat2; have hcn := run_string_sl (P := Try.prog) (w := w2) 40 9 5 Try.underlying40 Try.underlying5 Try.underlying9 (HS.out.below (B1.out.grown hg2 B1.out.size F1.out) (Nat.le_refl _)) c; have G1 := Lib.hid hown2; have G2 := Lib.hid hg2; have G3 := Lib.hid hat2; clear hown2 hg2 hat2 o1)
  clear hcn
  refine (Dg.sumR_any ⟨b.toArray⟩ _ (by unfold maxLen; show b.toArray.size ≤ _; have := LN.out; simp; omega)).mono ?_
  rintro e w' ⟨rfl, rfl⟩
  rw [show Dg.sumI (⟨b.toArray⟩ : ByteArray).data.toList = (sumN b : Int) from by simp [sumI_eq]]
  go_wp2_with fail
  refine (bigR_any (sumN b) _ (sumN_lt b)).mono ?_
  rintro e w3 ⟨v3, rfl, o3, fr3, b3⟩
  obtain ⟨A3, c3, rfl, s3⟩ := own_form o3
  have S3 := Lib.hid s3
  have B2 : Hid (Below w.heap.size w w2) := B1.out.grown G2.out B1.out.size F1.out
  have F2 : Hid (∀ k, v2.ownBlock = some k → w.heap.size ≤ k) := fun k hk => by
    rcases G3.out with e | e
    · rw [e] at hk; exact F1.out k hk
    · rw [e] at hk
      injection hk with hk
      have := B1.out.size
      omega
  have O2 := own_frm G1.out (Frm.of_below (F := fun _ => False) b3 (fun i hi hg => by omega)) (fun _ _ g => g)
  have B3 : Hid (Below w.heap.size w w3) := B2.out.trans (b3.mono B2.out.size)
  have L8 := Lib.hid (big_len (sumN b))
  clear o3 s3 fr3 b3
  go_wp2_with (at_builtin; refine wpList_append_sl _ rfl (.tmp 11) (.tmp 15) 40 rfl 5 i0 (.int .u8 0) 1 1 Try.underlying40 hi0 hz0 hz1 hz2 rfl (by decide) v2 ((uv n).length + n) (byts (uv n) ++ byts b) rfl O2 A3 (big (sumN b)).length c3 (byts (big (sumN b))) rfl S3.out (byts_one _) (by have := HU.out; have := L8.out; unfold maxLen; omega) (by have := HU.out; have := L8.out; omega) ?_; intro v4 w4 hown4 hg4 hat4; have J1 := Lib.hid hown4; have J2 := Lib.hid hg4; have J3 := Lib.hid hat4; clear hown4 hg4 hat4 O2)
  go_ret
  refine ⟨v4, rfl, ?_, fun k hk => ?_, B3.out.grown J2.out B3.out.size F2.out⟩
  · have h5 := J1.out
    rw [← byts_append, ← byts_append] at h5
    rw [← frame_parts, LN.out, List.length_append, List.length_append, LN.out]
    exact h5
  · rcases J3.out with e | e
    · rw [e] at hk; exact F2.out k hk
    · rw [e] at hk
      injection hk with hk
      have := B3.out.size
      omega

theorem str_neq (d e : List UInt8) : ((⟨d.toArray⟩ : ByteArray).toList != (⟨e.toArray⟩ : ByteArray).toList) = !decide (d = e) := by
  rw [ByteArray.toList_eq, ByteArray.toList_eq]
  show (d != e) = _
  rw [bne, Bool.beq_eq_decide_eq]
theorem str_eq (d e : List UInt8) : ((⟨d.toArray⟩ : ByteArray).toList == (⟨e.toArray⟩ : ByteArray).toList) = decide (d = e) := by
  rw [ByteArray.toList_eq, ByteArray.toList_eq]
  show (d == e) = _
  rw [Bool.beq_eq_decide_eq]
theorem big_iff {d : List UInt8} {n : Nat} (hd : d.length = 8) (hn : n < 18446744073709551616) : d = big n ↔ unbig d = n :=
  ⟨fun h => by rw [h, unbig_big hn], fun h => by rw [← h, big_unbig hd]⟩
theorem cmp_big {d : List UInt8} {n : Nat} (hd : d.length = 8) (hn : n < 18446744073709551616) : Value.bool (!(d == big n)) = Value.bool (!decide (unbig d = n)) := by
  congr 2
  rw [Bool.beq_eq_decide_eq]
  exact decide_eq_decide.2 (big_iff hd hn)
set_option maxRecDepth 100000 in
set_option maxHeartbeats 4000000 in
theorem nextR_in (b : List UInt8) (A : Option Addr) (n c p : Nat) (w : World) (hs : Sl w 1 A n (byts b)) (hn : n ≤ 1000000000) (hc : n ≤ c) (hcm : c ≤ 9223372036854775807) (hp : p ≤ n) :
    Calls Try.prog 71 #[.slice A n c, .int .i64 (p : Int)] w (NextPost (nres (nextN b p)) w) := by
  have LN : b.length = n := by simpa [byts_len] using hs.1
  obtain ⟨i0, hi0, hz0, hz1, hz2⟩ := info_parts u8_info
  have CV := Lib.hid (takeR_any b p n c A w hs hp (by omega))
  have HS := Lib.hid hs
  clear hs
  cases hv : vt 0 (b.drop p) with
  | error x =>
    have HR : Hid (nres (nextN b p) = ([], 0, x)) := by show _ = _; rw [nextN_err hv]; rfl
    have hx := vt_err _ _ _ hv
    have tx : (x != 0) = true := by simp; omega
    have HV : Hid (vres b p = (0, 0, x)) := by unfold vres; rw [hv]; rfl
    clear hv hx LN
    go_enter Try.func71, Try.ntmps71
    go_wp2_with fail
    refine CV.out.mono ?_
    rintro e w' ⟨rfl, rfl⟩
    rw [HV.out]
    go_wp2_with fail
    go_ret3
    exact next_none x HR.out (Below.refl _ _)
  | ok q =>
    obtain ⟨m, k⟩ := q
    have HN := Lib.hid (nextN_ok hv)
    obtain ⟨a1, a2, a3, _, _⟩ := vt_bound _ 0 m k (by omega) hv
    rw [List.length_drop, LN] at a2
    have HV : Hid (vres b p = ((m : Int), ((p + k : Nat) : Int), 0)) := by unfold vres; rw [hv]; rfl
    have hfr : p + k ≤ n := by omega
    have H64 : Hid (N64 m) := a3
    have LH := Lib.hid LN
    clear hv a1 a2 a3 LN
    generalize p + k = fr at *
    by_cases h8 : n - fr < 8 ∨ n - fr - 8 < m
    · have HR : Hid (nres (nextN b p) = ([], 0, 28)) := by show _ = _; rw [HN.out, nextB_short (by rw [LH.out]; exact h8)]; rfl
      by_cases h9 : n - fr < 8
      · have hl8 : (n : Int) - (fr : Int) < 8 := by omega
        clear h8 h9
        go_enter Try.func71, Try.ntmps71
        go_wp2_with fail
        refine CV.out.mono ?_
        rintro e w' ⟨rfl, rfl⟩
        rw [HV.out]
        go_wp2_with fail
        go_ret3
        exact next_none 28 HR.out (Below.refl _ _)
      · have hl8 : (8 : Int) ≤ (n : Int) - (fr : Int) := by omega
        have hlm : (n : Int) - (fr : Int) - 8 < (m : Int) := by omega
        have hz : IntKind.u64.wrap ((n : Int) - (fr : Int) - 8) = (n : Int) - (fr : Int) - 8 := by rw [IntKind.wrap_u64]; omega
        clear h8 h9
        go_enter Try.func71, Try.ntmps71
        go_wp2_with fail
        refine CV.out.mono ?_
        rintro e w' ⟨rfl, rfl⟩
        rw [HV.out]
        go_wp2_with fail
        go_ret3
        exact next_none 28 HR.out (Below.refl _ _)
    · have hl8 : (8 : Int) ≤ (n : Int) - (fr : Int) := by omega
      have hlm : (m : Int) ≤ (n : Int) - (fr : Int) - 8 := by omega
      have hz : IntKind.u64.wrap ((n : Int) - (fr : Int) - 8) = (n : Int) - (fr : Int) - 8 := by rw [IntKind.wrap_u64]; omega
      have hto : fr + m + 8 ≤ n := by omega
      obtain ⟨A2, c2, hcut, hcs⟩ := run_cut (P := Try.prog) Try.underlying40 u8_size A n c (fr + m) (fr + m + 8) (by omega) (by omega)
      obtain ⟨A3, c3, hcut3, hcs3⟩ := run_cut (P := Try.prog) Try.underlying40 u8_size A n c fr (fr + m) (by omega) (by omega)
      have S2 : Hid (Sl w 1 A2 8 (byts ((b.drop (fr + m)).take 8))) := by
        have := hcs.cells _ _ HS.out (by omega)
        rw [show fr + m + 8 - (fr + m) = 8 from by omega, Nat.mul_one, Nat.mul_one, byts_cut] at this
        exact this
      have S3 : Hid (Sl w 1 A3 m (byts ((b.drop fr).take m))) := by
        have := hcs3.cells _ _ HS.out (by omega)
        rw [show fr + m - fr = m from by omega, Nat.mul_one, Nat.mul_one, byts_cut] at this
        exact this
      rw [show fr + m + 8 - (fr + m) = 8 from by omega, show ((fr + m : Nat) : Int) = (fr : Int) + (m : Int) from by omega, show ((fr + m + 8 : Nat) : Int) = (fr : Int) + (m : Int) + 8 from by omega] at hcut
      rw [show fr + m - fr = m from by omega, show ((fr + m : Nat) : Int) = (fr : Int) + (m : Int) from by omega] at hcut3
      have HBad := Lib.hid (fun h2 => nextB_bad (b := b) (fr := fr) (n := m) (by rw [LH.out]; exact h8) h2)
      have HGood := Lib.hid (fun h2 => nextB_good (b := b) (fr := fr) (n := m) (by rw [LH.out]; exact h8) h2)
      have L8 : Hid (((b.drop (fr + m)).take 8).length = 8) := by show _ = _; rw [List.length_take, List.length_drop, LH.out]; omega
      have LM : Hid (((b.drop fr).take m).length = m) := by show _ = _; rw [List.length_take, List.length_drop, LH.out]; omega
      generalize (b.drop (fr + m)).take 8 = d at *
      generalize (b.drop fr).take m = x at *
      have HCN : Hid (∀ W, Below w.heap.size w W → (convert 40 9 (.slice A2 8 c2)).run Try.prog W = .ok (.string ⟨d.toArray⟩) W ∧ (convert 40 9 (.slice A3 m c3)).run Try.prog W = .ok (.string ⟨x.toArray⟩) W) := fun W hb =>
        ⟨run_string_sl (P := Try.prog) 40 9 5 Try.underlying40 Try.underlying5 Try.underlying9 (S2.out.below hb (Nat.le_refl _)) c2,
         run_string_sl (P := Try.prog) 40 9 5 Try.underlying40 Try.underlying5 Try.underlying9 (S3.out.below hb (Nat.le_refl _)) c3⟩
      have HML : Hid ((⟨x.toArray⟩ : ByteArray).size ≤ maxLen) := by unfold maxLen; show x.toArray.size ≤ _; have := LM.out; simp; omega
      have HSum : Hid (Dg.sumI (⟨x.toArray⟩ : ByteArray).data.toList = (sumN x : Int)) := by show _ = _; simp [sumI_eq]
      have hw1 : IntKind.i64.wrap ((fr : Int) + (m : Int) + 8) = (fr : Int) + (m : Int) + 8 := by rw [IntKind.wrap_i64]; omega
      have hlo1 : (0 : Int) ≤ (fr : Int) + (m : Int) := by omega
      have hlo2 : (fr : Int) + (m : Int) ≤ (fr : Int) + (m : Int) + 8 := by omega
      clear h8 hcs hcs3
      go_enter Try.func71, Try.ntmps71
      go_wp2_with fail
      refine CV.out.mono ?_
      rintro e w' ⟨rfl, rfl⟩
      rw [HV.out]
      clear CV HV
      go_upto_region 10 with fail
      obtain ⟨hS1, hS2⟩ := HCN.out w.drew (Below.refl _ _).drew
      go_cut [61] (fun s61 wx => s61 = .bool (!decide (unbig d = sumN x)) ∧ Below w.heap.size w wx)
      case first =>
        go_region_with (first
          | (go_at_call 91; refine (Dg.sumR_any ⟨x.toArray⟩ _ HML.out).mono ?_; rintro e w' ⟨rfl, rfl⟩; rw [HSum.out])
          | (go_at_call 73; refine (bigR_any (sumN x) _ (sumN_lt x)).mono ?_; rintro e w3 ⟨v3, rfl, o3, fr3, b3⟩; have g3 : Below w.heap.size w w3 := (Below.refl _ w).drew.trans (b3.mono (by simp)); obtain ⟨A5, c5, rfl, s5⟩ := own_form o3; have hc5 := run_string_sl (P := Try.prog) 40 9 5 Try.underlying40 Try.underlying5 Try.underlying9 s5 c5; have hS3 := HCN.out _ g3; have G3 := Lib.hid g3; clear g3 o3 fr3 b3 s5))
        all_goals (go_wp2_with fail; go_meet; exact ⟨cmp_big L8.out (sumN_lt x), G3.out⟩)
      case rest =>
        obtain ⟨rfl, hbc⟩ := hcut
        have BC := Lib.hid hbc
        have S4 := Lib.hid (S3.out.below hbc (Nat.le_refl _))
        have HO : Hid (∀ cs : Array Value, cs.size = 0 → (wc.alloc (.cells cs 5)).ownsRow 0 5 1 (.slice (some ⟨wc.heap.size, 0, none⟩) 0 0) 0 []) := fun cs h => World.ownsRow_made wc cs 0 (Nat.zero_le _) (Nat.zero_le _) h
        clear hbc hS1 hS2 hw1
        by_cases he : unbig d = sumN x
        · have HR : Hid (nres (nextN b p) = (x, fr + m + 8, 0)) := by show _ = _; rw [HN.out, HGood.out he]; rfl
          rw [show decide (unbig d = sumN x) = true from decide_eq_true he]
          clear he
          go_wp2_with (at_builtin; refine wpList_append_sl _ rfl (.tmp 62) (.tmp 66) 40 rfl 5 i0 (.int .u8 0) 1 1 Try.underlying40 hi0 hz0 hz1 hz2 rfl (by decide) (.slice (some ⟨wc.heap.size, 0, none⟩) 0 0) 0 [] rfl (HO.out _ rfl) A3 m c3 (byts x) rfl (S4.out.alloc _) (byts_one _) (by unfold maxLen; omega) (by omega) ?_; intro v1 w1 hown1 hg1 hat1; have H1 := Lib.hid hown1; have H2 := Lib.hid hg1; have H3 := Lib.hid hat1; clear hown1 hg1 hat1)
          go_ret3
          obtain ⟨v, hv1, hv2, hv3, hv4⟩ := bytesR_end LM.out H1.out H2.out H3.out
          injection hv1 with hv1
          subst hv1
          rw [HR.out]
          exact ⟨_, rfl, hv2, fun k hk => Nat.le_trans BC.out.size (hv3 k hk), BC.out.trans (hv4.mono BC.out.size)⟩
        · have HR : Hid (nres (nextN b p) = ([], 0, 27)) := by show _ = _; rw [HN.out, HBad.out he]; rfl
          rw [show decide (unbig d = sumN x) = false from decide_eq_false he]
          clear he
          go_wp2_with fail
          go_ret3
          exact next_none 27 HR.out BC.out

set_option maxRecDepth 100000 in
set_option maxHeartbeats 2000000 in
theorem nextR_bad (b : List UInt8) (A : Option Addr) (n c : Nat) (p : Int) (w : World) (hs : Sl w 1 A n (byts b)) (hp : p < 0 ∨ (n : Int) < p) :
    Calls Try.prog 71 #[.slice A n c, .int .i64 p] w (NextPost (nres (next b p)) w) := by
  have LN : b.length = n := by simpa [byts_len] using hs.1
  have HR : Hid (nres (next b p) = ([], 0, 2)) := by show _ = _; rw [next_out (by rw [LN]; exact hp)]; rfl
  clear hs LN
  by_cases h0 : p < 0
  · clear hp
    go_enter Try.func71, Try.ntmps71
    go_wp2_with fail
    go_ret3
    exact next_none 2 HR.out (Below.refl _ _)
  · have h1 : (n : Int) < p := by omega
    clear hp
    go_enter Try.func71, Try.ntmps71
    go_wp2_with fail
    go_ret3
    exact next_none 2 HR.out (Below.refl _ _)
theorem nextR_any (b : List UInt8) (A : Option Addr) (n c : Nat) (p : Int) (w : World) (hs : Sl w 1 A n (byts b)) (hn : n ≤ 1000000000) (hc : n ≤ c) (hcm : c ≤ 9223372036854775807) :
    Calls Try.prog 71 #[.slice A n c, .int .i64 p] w (NextPost (nres (next b p)) w) := by
  by_cases hp : p < 0 ∨ (n : Int) < p
  · exact nextR_bad b A n c p w hs hp
  · have LN : b.length = n := by simpa [byts_len] using hs.1
    obtain ⟨q, rfl⟩ : ∃ q : Nat, p = (q : Int) := ⟨p.toNat, by omega⟩
    rw [next_at (by omega)]
    exact nextR_in b A n c q w hs hn hc hcm (by omega)
end Go.Proofs.Ythpmngdpgniehaa.Wr
