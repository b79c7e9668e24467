/-
  The walk of readHash (journal): eight bytes as a number. Conditions: the bytes lie in memory.
-/
import Derived.Test.YthpmngdpgniehaaJrClone
import Derived.Test.YthpmngdpgniehaaFr2
namespace Go.Proofs.Ythpmngdpgniehaa.Jr
open Go.RowKit Go.Proofs.Ythpmngdpgniehaa.Mem Go.Proofs.Ythpmngdpgniehaa.Wr Go.Proofs.Ythpmngdpgniehaa.Opn

set_option maxRecDepth 100000 in
set_option maxHeartbeats 2000000 in
theorem readHash_any (d : List UInt8) (A : Option Addr) (c : Nat) (w : World) (hs : Sl w 1 A 8 (byts d)) :
    Calls Try.prog 70 #[.slice A 8 c] w fun e w' => e = .returned (.int .u64 ((unbig d : Nat) : Int)) ∧ w = w' := by
  have L8 : Hid (d.length = 8) := Lib.hid (by have := hs.1; simpa [byts_len] using this)
  have HS := Lib.hid hs
  clear hs
  go_enter Try.func70, Try.ntmps70
  go_wp2_with fail
  go_loop [3, 8] (fun s i => ∃ k : Nat, k ≤ 8 ∧ i = .int .i64 k ∧ s = .int .u64 ((unbig (d.take k) : Nat) : Int)) (fun _ i => 8 - (intOf i).toNat)
  case atStart => exact ⟨0, by omega, rfl, rfl⟩
  case round =>
    obtain ⟨k, hk, rfl, rfl⟩ := hrel
    by_cases hlt : k < 8
    · have kl : k < d.length := by have := L8.out; omega
      obtain ⟨b2, o2, rfl, hc2⟩ := HS.out.open_ (by omega)
      have g := hc2 k _ (byts_at kl)
      have hlti : (k : Int) < 8 := by omega
      have h0i : (0 : Int) ≤ (k : Int) := by omega
      have hd := toNat_lt d[k]
      have HO := Lib.hid (or_byte _ d[k].toNat (unbig_take_lt d hlt) hd)
      have HT := Lib.hid (unbig_take kl)
      clear hc2
      generalize d[k].toNat = z at *
      go_wp2_with fail
      go_round
      case rel => exact ⟨k + 1, by omega, by go_num, by rw [HT.out, HO.out _ (by first | rfl | (rw [IntKind.wrap_u64]; omega))]⟩
      case measure => simp [intOf]; omega
    · obtain rfl : k = 8 := by omega
      have HT : Hid (d.take 8 = d) := List.take_of_length_le (by have := L8.out; omega)
      rw [HT.out]
      go_wp2_with fail
      go_ret
      exact ⟨rfl, rfl⟩
set_option maxRecDepth 100000 in
/-- a new journal. -/
theorem new_any (w : World) : Calls Try.prog 27 #[] w fun e w' => ∃ g, e = .returned (.pointer (some ⟨g, 0, none⟩)) ∧ w.heap.size ≤ g ∧ Blk w' g 58 #[.slice none 0 0, .int .u64 0] ∧ Below w.heap.size w w' := by
  go_enter Try.func27, Try.ntmps27
  go_wp2_with fail
  go_ret
  exact ⟨w.heap.size, rfl, Nat.le_refl _, Blk.new _ _ _, (Below.refl _ _).alloc (Nat.le_refl _) _⟩
end Go.Proofs.Ythpmngdpgniehaa.Jr
