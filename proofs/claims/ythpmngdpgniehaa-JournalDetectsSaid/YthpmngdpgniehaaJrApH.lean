/-
  The walk of appendHash (journal): eight bytes behind a full row. Conditions: the bytes lie in memory.
-/
import Derived.Test.YthpmngdpgniehaaJrNil
import Derived.ArgAppend
namespace Go.Proofs.Ythpmngdpgniehaa.Jr
open Go.RowKit Go.Proofs.Ythpmngdpgniehaa.Mem Go.Proofs.Ythpmngdpgniehaa.Wr Go.Proofs.Ythpmngdpgniehaa.Opn

def hb (h k : Nat) : UInt8 := UInt8.ofNat (h / 256 ^ (7 - k) % 256)
theorem big_step8 (h k : Nat) (hk : k < 8) : (big h).take (k + 1) = (big h).take k ++ [hb h k] := by
  rcases (by omega : k = 0 ∨ k = 1 ∨ k = 2 ∨ k = 3 ∨ k = 4 ∨ k = 5 ∨ k = 6 ∨ k = 7) with rfl | rfl | rfl | rfl | rfl | rfl | rfl | rfl <;> rfl
theorem hb_val (h k : Nat) (hk : k < 8) : ((h : Int) / 2 ^ (56 - 8 * k) % 256) = ((hb h k).toNat : Int) := by
  have e : 2 ^ (56 - 8 * k) = 256 ^ (7 - k) := by
    rw [show 56 - 8 * k = 8 * (7 - k) from by omega, Nat.pow_mul]
  have e2 : (2 : Int) ^ (56 - 8 * k) = ((256 ^ (7 - k) : Nat) : Int) := by rw [← e]; norm_cast
  have e3 : (hb h k).toNat = h / 256 ^ (7 - k) % 256 := by
    unfold hb
    rw [UInt8.toNat_ofNat']
    exact Nat.mod_eq_of_lt (Nat.mod_lt _ (by decide))
  rw [e2, e3, Int.natCast_emod, Int.natCast_ediv]
  rfl
theorem one_b (w : World) (e : Int) (c : UInt8) (h : e = (c.toNat : Int)) : Sl (w.alloc (.cells #[.int .u8 e] 5)) 1 (some ⟨w.heap.size, 0, none⟩) 1 (byts [c]) :=
  ⟨rfl, fun _ => ⟨w.heap.size, 0, rfl, fun j u hu => by rw [World.cell?_alloc_mark]; rw [h]; simpa [byts] using hu⟩⟩
theorem own_zero {w : World} {base : Nat} {e : TypeId} {size n : Nat} {v : Value} {xs : List Value} (h : w.ownsRow base e size v n xs) : w.ownsRow 0 e size v n xs :=
  ⟨h.1, h.2.imp id fun ⟨g, cap, cur, h1, _, h3⟩ => ⟨g, cap, cur, h1, Nat.zero_le _, h3⟩⟩
/-- what a round has come to. -/
def AhRel (bs : List UInt8) (h k n : Nat) (A : Option Addr) (w : World) (v : Value) (wr : World) : Prop :=
  Below w.heap.size w wr ∧ ((k = 0 ∧ v = .slice A n n) ∨ (0 < k ∧ wr.ownsRow 0 5 1 v (n + k) (byts (bs ++ (big h).take k)) ∧ ∀ j, v.ownBlock = some j → w.heap.size ≤ j))
set_option maxRecDepth 100000 in
set_option maxHeartbeats 2000000 in
theorem appendHash_any (h : Nat) (bs : List UInt8) (A : Option Addr) (n : Nat) (w : World) (hs : Sl w 1 A n (byts bs)) (hn0 : 0 < n) (hn : n ≤ 100000000) :
    Calls Try.prog 40 #[.slice A n n, .int .u64 (h : Int)] w (RetBytes (bs ++ big h) w) := by
  obtain ⟨i0, hi0, hz0, hz1, hz2⟩ := info_parts u8_info
  have hbl : bs.length = n := by have := hs.1; simpa [byts_len] using this
  have HBL := Lib.hid hbl
  have HS := Lib.hid hs
  clear hs hbl
  go_enter Try.func40, Try.ntmps40
  go_wp2_with fail
  go_loopw [0, 5] (fun v i wr => ∃ k : Nat, k ≤ 8 ∧ i = .int .i64 (56 - 8 * (k : Int)) ∧ Hid (AhRel bs h k n A w v wr)) (fun _ i _ => (intOf i + 8).toNat)
  case atStart => exact ⟨0, by omega, rfl, Lib.hid ⟨Below.refl _ _, .inl ⟨rfl, rfl⟩⟩⟩
  case round =>
    obtain ⟨k, hk, rfl, HR⟩ := hrel
    by_cases hlt : k < 8
    · have h0 : (0 : Int) ≤ 56 - 8 * (k : Int) := by omega
      have HV := Lib.hid (hb_val h k hlt)
      have HT := Lib.hid (big_step8 h k hlt)
      obtain ⟨BB, hc⟩ := HR.out
      have HB := Lib.hid BB
      rcases hc with ⟨rfl, rfl⟩ | ⟨hk0, hown, hnew⟩
      · obtain ⟨b, off, rfl, hcell⟩ := HS.out.open_ hn0
        have HC : Hid (∀ j u, (byts bs)[j]? = some u → wr.cell? ⟨b, off + j, none⟩ = some u) := Lib.hid (fun j u hu => (HB.out.cell (World.block_lt_of_cell? w _ (hcell j u hu))).trans (hcell j u hu))
        clear hcell BB hk
        go_wp2_with (at_builtin; refine wpList_append_grows _ rfl (.tmp 10) (.tmp 15) 40 rfl 5 i0 (.int .u8 0) 1 1 Try.underlying40 hi0 hz0 hz1 hz2 rfl (by decide) (some ⟨b, off, none⟩) n n (byts bs) rfl (fun e => by cases e) (by rw [byts_len, HBL.out, Nat.mul_one]) (fun a ha j u hu => by injection ha with ha; subst ha; rw [Addr.add_lit]; exact (World.cell?_alloc_lt wr _ _ (World.block_lt_of_cell? wr _ (HC.out j u hu))).trans (HC.out j u hu)) ⟨wr.heap.size, 0, none⟩ 1 1 (byts [hb h 0]) rfl rfl (fun j u hu => by rw [Addr.add_lit]; exact ((one_b wr _ _ HV.out).2 (by decide)).elim fun b' hh => hh.elim fun o' hh => by obtain ⟨e, h2⟩ := hh; injection e with e; injection e with e1 e2; subst e1 e2; exact h2 j u hu) (byts_one _) (by omega) (by unfold maxLen; omega) (by omega) ?_; intro v1 w1 hown1 hg1; have G1 := Lib.hid hown1; have G2 := Lib.hid hg1; clear hown1 hg1)
        have R1 : Hid (AhRel bs h 1 n (some ⟨b, off, none⟩) w v1 w1) := Lib.hid ⟨(HB.out.alloc HB.out.size _).trans ((Frm.of_grown (F := fun _ => False) G2.out (fun i hi => by cases hi)).below (by have := HB.out.size; simp; omega) (fun _ _ g => g)), .inr ⟨by omega, by have := G1.out; rw [← byts_append] at this; exact own_zero this, fun j hj => Nat.le_trans (by have := HB.out.size; simp; omega) (G1.out.lt j hj).1⟩⟩
        go_wp2_with fail
        go_roundw
        case rel => exact ⟨1, by omega, by go_num, R1⟩
        case measure => simp [intOf]
      · have O := Lib.hid hown
        have OA := Lib.hid (hown.alloc (.cells #[.int .u8 ((hb h k).toNat : Int)] 5))
        have NW := Lib.hid hnew
        have hv := HV.out
        clear hown hnew BB
        go_wp2_with (at_builtin; refine wpList_append_sl _ rfl (.tmp 10) (.tmp 15) 40 rfl 5 i0 (.int .u8 0) 1 1 Try.underlying40 hi0 hz0 hz1 hz2 rfl (by decide) _ (n + k) (byts (bs ++ (big h).take k)) rfl (O.out.alloc _) _ 1 1 (byts [hb h k]) rfl (one_b wr _ _ (by first | rfl | exact HV.out)) (byts_one _) (by unfold maxLen; omega) (by omega) ?_; intro v1 w1 hown1 hg1 hat1; have G1 := Lib.hid hown1; have G2 := Lib.hid hg1; have G3 := Lib.hid hat1; clear hown1 hg1 hat1)
        have R1 : Hid (AhRel bs h (k + 1) n A w v1 w1) := Lib.hid ⟨(HB.out.alloc HB.out.size _).trans ((Frm.of_grown (F := fun i => w.heap.size ≤ i) G2.out (fun i hi => NW.out i hi)).below (by have := HB.out.size; simp; omega) (fun i hi g => by omega)), .inr ⟨by omega, by have := G1.out; rw [← byts_append, List.append_assoc, ← HT.out] at this; exact this, fun j hj => by
          rcases G3.out with e | e
          · rw [e] at hj
            exact NW.out j hj
          · rw [e] at hj
            injection hj with hj
            have := HB.out.size
            simp at hj
            omega⟩⟩
        go_wp2_with fail
        go_roundw
        case rel => exact ⟨k + 1, by omega, by go_num, R1⟩
        case measure => simp [intOf]; omega
    · obtain rfl : k = 8 := by omega
      obtain ⟨BB, hc⟩ := HR.out
      rcases hc with ⟨hk0, _⟩ | ⟨hk0, hown, hnew⟩
      · omega
      · have HE : Hid (RetBytes (bs ++ big h) w (.returned _) _) := Lib.hid ⟨_, rfl, by
          have e : (big h).take 8 = big h := List.take_of_length_le (by rw [big_len]; exact Nat.le_refl _)
          rw [e] at hown
          rw [List.length_append, big_len, HBL.out]
          exact hown, hnew, BB⟩
        clear hown hnew BB
        go_wp2_with fail
        go_ret
        exact HE.out
end Go.Proofs.Ythpmngdpgniehaa.Jr
