/-
  The walks of the reference's Reader, third part: Text, Ints, NewReader. Conditions: the reader's block and its bytes lie in memory.
-/
import Derived.Test.YthpmngdpgniehaaWrS2
import Derived.Test.YthpmngdpgniehaaWrR5
import Derived.Test.YthpmngdpgniehaaWrV2
namespace Go.Proofs.Ythpmngdpgniehaa.Wr
open Go.RowKit Go.Proofs.Ythpmngdpgniehaa.Mem
attribute [local go_sem ↓] exec_cut

set_option maxRecDepth 100000 in
set_option maxHeartbeats 4000000 in
theorem rtextR_any (p : Nat) (A : Option Addr) (bs : List UInt8) (most : Int) (s : RS) (w : World) (h : Rd 105 w p A bs s) (hm : I64 most) :
    Calls Try.prog 64 #[.pointer (some ⟨p, 0, none⟩), .int .i64 most] w (RdPost 105 p A bs (.string ⟨(rT bs most s).1.toArray⟩) (rT bs most s).2 w) := by
  have H := Lib.hid h
  have HF := Lib.hid (rLen_fine most h.ok)
  have HM := Lib.hid hm
  clear h hm
  go_enter Try.func64, Try.ntmps64
  go_wp2_with fail
  refine (rlenR_any p A bs most s _ H.out HM.out).mono ?_
  rintro e w1 ⟨rfl, h1, f1⟩
  have H1 := Lib.hid h1
  have F1 := Lib.hid f1
  have R0 := Lib.hid (@rT_shut bs most s)
  have R1 := Lib.hid (@rT_short bs most s)
  have R2 := Lib.hid (@rT_full bs most s)
  clear h1 f1
  generalize rLen bs most s = r at *
  obtain ⟨n, s2⟩ := r
  obtain ⟨⟨c, hb, hcc, hcm⟩, hs, ha, hok, hl⟩ := H1.out
  have q0 : w1.cell? ⟨p, 0, none⟩ = some (.slice A bs.length c) := hb.cell 0
  have q1 : w1.cell? ⟨p, 1, none⟩ = some (.int .i64 (s2.pos : Int)) := hb.cell 1
  have q2 : w1.cell? ⟨p, 2, none⟩ = some (.int .i64 s2.err) := hb.cell 2
  have g1 := hb.frozen 1
  have g2 := hb.frozen 2
  have hle : s2.pos ≤ bs.length := hok.1
  clear hb ha hok
  by_cases he : s2.err = 0
  · have te : (s2.err == 0) = true := by simp [he]
    have te2 : (s2.err != 0) = false := by simp [he]
    have HE := Lib.hid he
    have hz : IntKind.u64.wrap ((bs.length : Int) - (s2.pos : Int)) = (bs.length : Int) - (s2.pos : Int) := by rw [IntKind.wrap_u64]; omega
    clear he
    by_cases h2 : bs.length - s2.pos < n
    · have HR := Lib.hid (R1.out HE.out h2)
      have HK : Hid ((⟨s2.pos, 28⟩ : RS).ok bs) := ⟨hle, by show (0 : Int) ≤ 28; omega, by show (28 : Int) ≤ 32; omega⟩
      have hlt : (bs.length : Int) - (s2.pos : Int) < (n : Int) := by omega
      clear h2 hs
      go_wp2_with fail
      go_quiet (fail)
      go_wp2_with fail
      go_ret
      exact ⟨by rw [HR.out]; rfl, by rw [HR.out]; exact (H1.out.drewN _).put_err HK.out, (F1.out.drewN _).setCell (fun _ => rfl) _⟩
    · have HR := Lib.hid (R2.out HE.out h2)
      have HK : Hid ((⟨s2.pos + n, s2.err⟩ : RS).ok bs) := ⟨by show s2.pos + n ≤ _; omega, HF.out.1.2⟩
      have hge : (n : Int) ≤ (bs.length : Int) - (s2.pos : Int) := by omega
      obtain ⟨A2, c2, hcut, hcs⟩ := run_cut (P := Try.prog) Try.underlying40 u8_size A bs.length c s2.pos (s2.pos + n) (by omega) (by omega)
      have hsub : s2.pos + n - s2.pos = n := by omega
      have hcn := fun k => run_string_sl (P := Try.prog) (w := w1.drewN k) 40 9 5 Try.underlying40 Try.underlying5 Try.underlying9 (A := A2) (n := n) (l := (bs.drop s2.pos).take n)
        (by
          have := hcs.cells _ _ (hs.drewN k) (by omega)
          rw [hsub, Nat.mul_one, Nat.mul_one, byts_cut] at this
          exact this) c2
      rw [hsub] at hcut
      have hpn : s2.pos + n ≤ 100000000000 := by omega
      have hcast : ((s2.pos + n : Nat) : Int) = (s2.pos : Int) + (n : Int) := by omega
      have hw5 : IntKind.i64.wrap (n : Int) = (n : Int) := by rw [IntKind.wrap_i64]; omega
      have hw6 : IntKind.i64.wrap ((s2.pos : Int) + (n : Int)) = (s2.pos : Int) + (n : Int) := by rw [IntKind.wrap_i64]; omega
      rw [hcast] at hcut
      clear h2 hcs hsub hs
      go_wp2_with fail
      go_quiet (fail)
      go_wp2_with fail
      go_quiet (fail)
      clear hw5 hw6
      go_wp2_with fail
      go_ret
      have h4 := (H1.out.drewN nq).put_pos HK.out
      rw [hcast, HE.out] at h4

      exact ⟨by rw [HR.out]; rfl, by rw [HR.out]; exact h4, (F1.out.drewN _).setCell (fun _ => rfl) _⟩
  · have HR := Lib.hid (R0.out he)
    have te : (s2.err == 0) = false := by simpa using he
    have te2 : (s2.err != 0) = true := by simpa using he
    clear he hs
    go_wp2_with fail
    go_quiet (fail)
    go_wp2_with fail
    go_ret
    exact ⟨by rw [HR.out]; rfl, by rw [HR.out]; exact H1.out.drewN _, F1.out.drewN _⟩
end Go.Proofs.Ythpmngdpgniehaa.Wr
