/-
  The walks of wire's Reader, fourth part: Text, list, Ints, NewReader. Conditions: the reader's block and its bytes lie in memory.
-/
import Derived.Test.YthpmngdpgniehaaWrR3
import Derived.Test.YthpmngdpgniehaaCut
namespace Go.Proofs.Ythpmngdpgniehaa.Wr
open Go.RowKit Go.Proofs.Ythpmngdpgniehaa.Mem
attribute [local go_sem ↓] exec_cut

theorem u8_size : (Try.prog.info? 5).map (·.size) = some 1 := by kernel_rfl
theorem rT_shut {bs : List UInt8} {most : Int} {s : RS} (h : (rLen bs most s).2.err ≠ 0) : rT bs most s = ([], (rLen bs most s).2) := by unfold rT; rw [if_neg h]
theorem rT_short {bs : List UInt8} {most : Int} {s : RS} (h : (rLen bs most s).2.err = 0) (h2 : bs.length - (rLen bs most s).2.pos < (rLen bs most s).1) : rT bs most s = ([], ⟨(rLen bs most s).2.pos, 28⟩) := by unfold rT; rw [if_pos h, if_pos h2]
theorem rT_full {bs : List UInt8} {most : Int} {s : RS} (h : (rLen bs most s).2.err = 0) (h2 : ¬ bs.length - (rLen bs most s).2.pos < (rLen bs most s).1) :
    rT bs most s = ((bs.drop (rLen bs most s).2.pos).take (rLen bs most s).1, ⟨(rLen bs most s).2.pos + (rLen bs most s).1, 0⟩) := by unfold rT; rw [if_pos h, if_neg h2]
theorem rLeft_open {bs : List UInt8} {s : RS} (h : s.err = 0) : rLeft bs s = bs.length - s.pos := by unfold rLeft; rw [if_pos h]
theorem byts_cut (l : List UInt8) (a b : Nat) : ((byts l).drop a).take b = byts ((l.drop a).take b) := by
  simp [byts, List.map_drop, List.map_take]

set_option maxRecDepth 100000 in
set_option maxHeartbeats 4000000 in
theorem rtext_any (p : Nat) (A : Option Addr) (bs : List UInt8) (most : Int) (s : RS) (w : World) (h : Rd 99 w p A bs s) (hm : I64 most) :
    Calls Try.prog 57 #[.pointer (some ⟨p, 0, none⟩), .int .i64 most] w (RdPost 99 p A bs (.string ⟨(rT bs most s).1.toArray⟩) (rT bs most s).2 w) := by
  have H := Lib.hid h
  have HF := Lib.hid (rLen_fine most h.ok)
  have HM := Lib.hid hm
  clear h hm
  go_enter Try.func57, Try.ntmps57
  go_wp2_with fail
  refine (rlen_any p A bs most s _ H.out HM.out).mono ?_
  rintro e w1 ⟨rfl, h1, f1⟩
  have H1 := Lib.hid h1
  have F1 := Lib.hid f1
  have R0 := Lib.hid (@rT_shut bs most s)
  have R1 := Lib.hid (@rT_short bs most s)
  have R2 := Lib.hid (@rT_full bs most s)
  clear h1 f1
  generalize rLen bs most s = r at *
  obtain ⟨n, s2⟩ := r
  go_wp2_with fail
  by_cases he : s2.err = 0
  · refine (ready_of H1.out true (by simpa using he)).mono ?_
    rintro e w' ⟨rfl, rfl⟩
    have HE := Lib.hid he
    have HL := Lib.hid (rLeft_open (bs := bs) he)
    clear he
    go_wp2_with fail
    refine (rleft_any p A bs s2 _ H1.out).mono ?_
    rintro e w2 ⟨rfl, q, hq⟩
    rw [HL.out]
    obtain ⟨⟨c, hb, hcc, hcm⟩, hs, ha, hok, hl⟩ := H1.out
    have q0 : w2.cell? ⟨p, 0, none⟩ = some (.slice A bs.length c) := by rw [hq]; exact hb.cell 0
    have q1 : w2.cell? ⟨p, 1, none⟩ = some (.int .i64 (s2.pos : Int)) := by rw [hq]; exact hb.cell 1
    have q2 : w2.cell? ⟨p, 2, none⟩ = some (.int .i64 s2.err) := by rw [hq]; exact hb.cell 2
    have g1 : w2.frozen? ⟨p, 1, none⟩ = false := by rw [hq]; exact hb.frozen 1
    have g2 : w2.frozen? ⟨p, 2, none⟩ = false := by rw [hq]; exact hb.frozen 2
    have hle := hok.1
    have H2 : Hid (Rd 99 w2 p A bs s2) := by rw [hq]; exact H1.out.drewN q
    have F2 : Hid (Frm (· = p) w w2) := by rw [hq]; exact F1.out.drewN q
    have hz : IntKind.u64.wrap ((bs.length - s2.pos : Nat) : Int) = ((bs.length - s2.pos : Nat) : Int) := by rw [IntKind.wrap_u64]; omega
    clear hb hs ha hok hq
    by_cases h2 : bs.length - s2.pos < n
    · have HR := Lib.hid (R1.out HE.out h2)
      have HK : Hid ((⟨s2.pos, 28⟩ : RS).ok bs) := ⟨hle, by show (0 : Int) ≤ 28; omega, by show (28 : Int) ≤ 32; omega⟩
      have hlt : ((bs.length - s2.pos : Nat) : Int) < (n : Int) := by omega
      clear h2
      generalize bs.length - s2.pos = L at *
      go_wp2_with fail
      go_ret
      exact ⟨by rw [HR.out]; rfl, by rw [HR.out]; exact H2.out.put_err HK.out, F2.out.setCell (fun _ => rfl) _⟩
    · have HR := Lib.hid (R2.out HE.out h2)
      have hn2 : n ≤ bs.length - s2.pos := by omega
      have HK : Hid ((⟨s2.pos + n, s2.err⟩ : RS).ok bs) := ⟨by show s2.pos + n ≤ _; omega, HF.out.1.2⟩
      have hge : (n : Int) ≤ ((bs.length - s2.pos : Nat) : Int) := by omega
      obtain ⟨A2, c2, hcut, hcs⟩ := run_cut (P := Try.prog) Try.underlying40 u8_size A bs.length c s2.pos (s2.pos + n) (by omega) (by omega)
      have H3 : Hid (Rd 99 (w2.setCell ⟨p, 1, none⟩ (.int .i64 ((s2.pos + n : Nat) : Int))) p A bs ⟨s2.pos + n, s2.err⟩) := H2.out.put_pos HK.out
      have F3 : Hid (Frm (· = p) w (w2.setCell ⟨p, 1, none⟩ (.int .i64 ((s2.pos + n : Nat) : Int)))) := F2.out.setCell (fun _ => rfl) _
      have hsub : s2.pos + n - s2.pos = n := by omega
      have hcn := fun k => run_string_sl (P := Try.prog) (w := (w2.setCell ⟨p, 1, none⟩ (.int .i64 ((s2.pos + n : Nat) : Int))).drewN k) 40 9 5 Try.underlying40 Try.underlying5 Try.underlying9 (A := A2) (n := n) (l := (bs.drop s2.pos).take n)
        (by
          have := hcs.cells _ _ (H3.out.drewN k).2.1 (by omega)
          rw [hsub, Nat.mul_one, Nat.mul_one, byts_cut] at this
          exact this) c2
      rw [hsub] at hcut
      have hpn : s2.pos + n ≤ 100000000000 := by omega
      have hcast : ((s2.pos + n : Nat) : Int) = (s2.pos : Int) + (n : Int) := by omega
      rw [hcast] at hcut hcn H3 F3
      clear h2 hcs hsub hcast
      go_wp2_with fail
      go_quiet (fail)
      go_wp2_with fail
      go_ret
      refine ⟨by rw [HR.out]; rfl, ?_, F3.out.drewN _⟩
      rw [HR.out]
      have h4 := H3.out.drewN nq
      rw [HE.out] at h4
      exact h4
  · have HR := Lib.hid (R0.out he)
    refine (ready_of H1.out false (by simpa using he)).mono ?_
    rintro e w' ⟨rfl, rfl⟩
    clear he
    go_wp2_with fail
    go_ret
    exact ⟨by rw [HR.out]; rfl, by rw [HR.out]; exact H1.out, F1.out⟩
end Go.Proofs.Ythpmngdpgniehaa.Wr
