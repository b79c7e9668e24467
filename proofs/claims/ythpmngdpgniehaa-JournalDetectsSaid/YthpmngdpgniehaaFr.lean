/-
  The walks of wire's Frame and Next. Conditions: the bytes lie in memory; sizes that a machine holds.
-/
import Derived.Test.YthpmngdpgniehaaWrR4
import Derived.Test.YthpmngdpgniehaaWrFrame
import Derived.Test.YthpmngdpgniehaaDgWalks
namespace Go.Proofs.Ythpmngdpgniehaa.Wr
open Go.RowKit Go.Proofs.Ythpmngdpgniehaa.Mem
attribute [local go_sem ↓] exec_cut

theorem bigG_get : ∀ (m n k : Nat), k < m → (bigG m n)[k]? = some (UInt8.ofNat (n / 256 ^ (m - 1 - k) % 256))
  | 0, _, _, h => absurd h (by omega)
  | m + 1, n, 0, _ => by simp [bigG]
  | m + 1, n, k + 1, h => by
    rw [bigG, List.getElem?_cons_succ, bigG_get m n k (by omega), show m + 1 - 1 - (k + 1) = m - 1 - k from by omega]
theorem big_at {n k : Nat} (h : k < 8) : (big n).take (k + 1) = (big n).take k ++ [UInt8.ofNat (n / 256 ^ (7 - k) % 256)] := by
  have hk : k < (big n).length := by rw [big_len]; exact h
  have hg := bigG_get 8 n k h
  have he : (big n)[k] = UInt8.ofNat (n / 256 ^ (7 - k) % 256) := by
    have h2 := List.getElem?_eq_getElem hk
    have h3 : (big n)[k]? = some (UInt8.ofNat (n / 256 ^ (8 - 1 - k) % 256)) := hg
    rw [h2] at h3
    injection h3
  rw [List.take_succ_eq_append_getElem hk, he]
theorem shr_byte (n k : Nat) : IntKind.u8.wrap ((n : Int) / 2 ^ (8 * (7 - k))) = ((UInt8.ofNat (n / 256 ^ (7 - k) % 256)).toNat : Int) := by
  have e : ((n : Int) / 2 ^ (8 * (7 - k))) = ((n / 256 ^ (7 - k) : Nat) : Int) := by
    rw [Int.natCast_ediv]
    congr 1
    rw [Int.pow_mul, Int.natCast_pow]
    rfl
  rw [e, IntKind.wrap_u8, toNat_small (by omega)]
  omega
theorem frame_parts (b : List UInt8) : uv b.length ++ b ++ big (sumN b) = frame b := by unfold frame; rw [List.append_assoc]

set_option maxRecDepth 100000 in
set_option maxHeartbeats 2000000 in
theorem frame_any (b : List UInt8) (A : Option Addr) (n c : Nat) (w : World) (hs : Sl w 1 A n (byts b)) (hn : n ≤ 1000000000) :
    Calls Try.prog 41 #[.slice A n c] w (RetBytes (frame b) w) := by
  have LN : Hid (b.length = n) := by show _ = _; simpa [byts_len] using hs.1
  have HS := Lib.hid hs
  have HN : Hid (N64 n) := by unfold N64; show _ < _; omega
  have HFit : Hid (Fit 10000000000) := by unfold Fit; show _ ≤ _; decide
  have HU : Hid ((uv n).length ≤ 10) := uv_len64 HN.out
  clear hs
  go_enter Try.func41, Try.ntmps41
  go_wp2_with fail
  refine (newWriter_any _).mono ?_
  rintro e w1 ⟨g, rfl, hg, hw1, hb1⟩
  have HG := Lib.hid hg
  have H1 := Lib.hid hw1
  have B1 := Lib.hid hb1
  clear hg hw1 hb1
  go_wp2_with fail
  refine (uint_any g _ [] n _ H1.out HN.out (HFit.out.of (by simp))).mono ?_
  rintro e w2 ⟨rfl, v2, hw2, ht2⟩
  rw [List.nil_append] at hw2
  have T2 := Lib.hid ht2
  have H2 := Lib.hid hw2
  have HOwn : Hid (∀ k, own g (.slice none 0 0) k → w.heap.size ≤ k) := fun k hk => by
    rcases hk with rfl | hk
    · exact HG.out
    · cases hk
  have B2 : Hid (Below w.heap.size w w2) := B1.out.trans (ht2.below B1.out.size HOwn.out)
  clear hw2 ht2
  go_wp2_with fail
  refine (put_any g v2 (uv n) b A n c _ H2.out (HS.out.below B2.out (Nat.le_refl _)) (HFit.out.of (by have := HU.out; have := LN.out; omega))).mono ?_
  rintro e w3 ⟨rfl, v3, hw3, ht3⟩
  have T3 := Lib.hid (T2.out.trans ht3)
  have H3 := Lib.hid hw3
  have B3 : Hid (Below w.heap.size w w3) := B1.out.trans ((T2.out.trans ht3).below B1.out.size HOwn.out)
  have hcn := run_string_sl (P := Try.prog) (w := w3) 40 9 5 Try.underlying40 Try.underlying5 Try.underlying9 (HS.out.below B3.out (Nat.le_refl _)) c
  clear hw3 ht3
  go_wp2_with fail
  clear hcn
  refine (Dg.sum_any ⟨b.toArray⟩ _ (by unfold maxLen; show b.toArray.size ≤ _; have := LN.out; simp; omega)).mono ?_
  rintro e w' ⟨rfl, rfl⟩
  rw [show Dg.sumI (⟨b.toArray⟩ : ByteArray).data.toList = (sumN b : Int) from by simp [sumI_eq]]
  go_wp2_with fail
  go_loopw [18] (fun i wr => ∃ (k : Nat) (u : Value) (ys : List UInt8), k ≤ 8 ∧ i = .int .i64 k ∧ Wr 93 wr g u ys ∧ WrTo g (.slice none 0 0) u w1 wr ∧ Hid (ys = uv n ++ b ++ (big (sumN b)).take k)) (fun i _ => 8 - (intOf i).toNat)
  case atStart => exact ⟨0, v3, _, by omega, rfl, H3.out, T3.out, by show _ = _; simp⟩
  case round =>
    obtain ⟨k, u, ys, hk, rfl, hw4, ht4, HE⟩ := hrel
    have K1 := Lib.hid hw4
    have K2 := Lib.hid ht4
    clear hw4 ht4
    by_cases hlt : k < 8
    · have HX := Lib.hid (shr_byte (sumN b) k)
      have HE2 : Hid (ys ++ [UInt8.ofNat (sumN b / 256 ^ (7 - k) % 256)] = uv n ++ b ++ (big (sumN b)).take (k + 1)) := by
        show _ = _
        rw [HE.out, big_at hlt, List.append_assoc]
      have HF : Hid (Fit (ys.length + [UInt8.ofNat (sumN b / 256 ^ (7 - k) % 256)].length)) := by
        refine HFit.out.of ?_
        rw [HE.out, List.length_append, List.length_append, List.length_take, List.length_singleton]
        have := HU.out
        have := LN.out
        omega
      go_wp2_with fail
      refine (put_any g u ys [UInt8.ofNat (sumN b / 256 ^ (7 - k) % 256)] _ 1 _ _ (K1.out.alloc _) (by exact one_byte _ _ _ _ rfl HX.out) HF.out).mono ?_
      rintro e w5 ⟨rfl, v5, hw5, ht5⟩
      have H4 := Lib.hid hw5
      have H5 : Hid (WrTo g (.slice none 0 0) v5 w1 w5) := K2.out.trans (((WrTo.refl g u _).alloc _).trans ht5)
      clear hw5 ht5
      go_wp2_with fail
      go_roundw
      case rel => exact ⟨k + 1, v5, _, by omega, by go_num, H4.out, H5.out, HE2⟩
      case measure => simp [intOf]; omega
    · obtain rfl : k = 8 := by omega
      have HE2 : Hid (ys = frame b) := by
        show _ = _
        rw [HE.out, List.take_of_length_le (by rw [big_len]; omega), ← LN.out, frame_parts]
      obtain ⟨hb5, ho5⟩ := K1.out
      have q0 : wr.cell? ⟨g, 0, none⟩ = some u := hb5.cell 0
      have HO := Lib.hid ho5
      clear hb5 ho5
      go_wp2_with fail
      go_ret
      refine ⟨u, rfl, by rw [← HE2.out]; exact HO.out, fun j hj => ?_, B1.out.trans (K2.out.below B1.out.size HOwn.out)⟩
      rcases K2.out.2 j hj with g1 | g1
      · cases g1
      · exact Nat.le_trans B1.out.size g1
end Go.Proofs.Ythpmngdpgniehaa.Wr
