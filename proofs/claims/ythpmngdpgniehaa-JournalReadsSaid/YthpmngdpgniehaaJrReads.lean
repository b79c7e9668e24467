/-
  The walk of JournalReads: it returns true, and changes nothing that was there. Conditions: the bytes lie in memory.
-/
import Derived.Test.YthpmngdpgniehaaJrW5
import Derived.Test.YthpmngdpgniehaaJrAll
namespace Go.Proofs.Ythpmngdpgniehaa.Jr
open Go.RowKit Go.Proofs.Ythpmngdpgniehaa.Mem Go.Proofs.Ythpmngdpgniehaa.Wr Go.Proofs.Ythpmngdpgniehaa.Opn
attribute [local go_sem ↓] exec_load_rec exec_store_rec

theorem row_len {F O : Nat → Prop} {w : World} {v : Value} {rs : List Rec} (h : Row F O w v rs) : rs.length ≤ 9223372036854775807 := by
  obtain ⟨xs, L, h1, _⟩ := h
  rcases h1.2 with ⟨_, e⟩ | ⟨g, cap, cur, _, _, _, hnc, hcm, _⟩
  · omega
  · unfold maxLen at hcm
    omega
set_option maxRecDepth 100000 in
set_option maxHeartbeats 4000000 in
theorem reads_walk (bs : List UInt8) (A : Option Addr) (n c : Nat) (w : World) (hs : Sl w 1 A n (byts bs)) (hc : n ≤ c) (hcm : c ≤ 9223372036854775807) : Calls Try.prog 6 #[.slice A n c] w (YesB w) := by
  by_cases hn : n ≤ 50000
  · have hni : (n : Int) ≤ 50000 := by omega
    have HL : Hid (n ≤ 100000000) := Lib.hid (by omega)
    have HS := Lib.hid hs
    have HC := Lib.hid hc
    have HCM := Lib.hid hcm
    clear hs hn hc hcm
    go_enter Try.func6, Try.ntmps6
    go_wp2_with fail
    refine (read_any bs A n c _ HS.out HL.out HC.out HCM.out).mono ?_
    generalize hR : readN bs = R
    rintro e w1 ⟨v1, rfl, r1, b1⟩
    have HR := Lib.hid hR
    obtain ⟨A1, c1, rfl, s1, _⟩ := r1.form
    have HL1 := Lib.hid (row_len r1)
    have B1 := Lib.hid b1
    have S1 := Lib.hid s1
    clear hR r1 b1 s1
    go_wp2_with fail
    have CR := readR_any bs A n c w1 (HS.out.below B1.out (Nat.le_refl _)) HL.out HC.out HCM.out
    rw [HR.out] at CR
    refine CR.mono ?_
    rintro e w2 ⟨v2, rfl, r2, b2⟩
    obtain ⟨A2, c2, rfl, s2, _⟩ := r2.form
    have B2 := Lib.hid (B1.out.trans (b2.mono B1.out.size))
    have S1b := Lib.hid (S1.out.below b2 (Nat.le_refl _))
    have S2 := Lib.hid s2
    clear CR r2 b2 s2
    go_wp2_with fail
    refine (sameAll_any R.1 A1 A2 _ c1 c2 _ rfl HL1.out S1b.out S2.out).mono ?_
    rintro e w3 ⟨rfl, b3⟩
    have B3 := Lib.hid (B2.out.trans (b3.mono B2.out.size))
    clear b3
    go_wp2_with fail
    refine (awake_any _).mono ?_
    rintro e w4 ⟨rfl, b4⟩
    have B4 := Lib.hid (B3.out.trans (b4.mono B3.out.size))
    clear b4
    go_wp2_with fail
    go_ret
    exact ⟨rfl, B4.out⟩
  · have hni : (50000 : Int) < (n : Int) := by omega
    clear hs hc hcm
    go_enter Try.func6, Try.ntmps6
    go_wp2_with fail
    refine (awake_any _).mono ?_
    rintro e w4 ⟨rfl, b4⟩
    have B4 := Lib.hid b4
    clear b4
    go_wp2_with fail
    go_ret
    exact ⟨rfl, B4.out⟩
end Go.Proofs.Ythpmngdpgniehaa.Jr
