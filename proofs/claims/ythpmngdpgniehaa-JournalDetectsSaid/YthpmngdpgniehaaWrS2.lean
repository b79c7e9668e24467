/-
  The walks of the reference's Reader, second part: Uint, Signed, Int, Left, Err, size, Text. Conditions: the reader's block and its bytes lie in memory.
-/
import Derived.Test.YthpmngdpgniehaaWrS
import Derived.Test.YthpmngdpgniehaaWrR4
namespace Go.Proofs.Ythpmngdpgniehaa.Wr
open Go.RowKit Go.Proofs.Ythpmngdpgniehaa.Mem
attribute [local go_sem ↓] exec_cut

set_option maxRecDepth 100000 in
set_option maxHeartbeats 2000000 in
theorem ruintR_any (p : Nat) (A : Option Addr) (bs : List UInt8) (s : RS) (w : World) (h : Rd 105 w p A bs s) :
    Calls Try.prog 66 #[.pointer (some ⟨p, 0, none⟩)] w (RdPost 105 p A bs (.int .u64 ((rU bs s).1 : Int)) (rU bs s).2 w) := by
  have H := Lib.hid h
  obtain ⟨⟨c, hb, _⟩, hs, ha, hok, hl⟩ := h
  have q0 : w.cell? ⟨p, 0, none⟩ = some (.slice A bs.length c) := hb.cell 0
  have q1 : w.cell? ⟨p, 1, none⟩ = some (.int .i64 (s.pos : Int)) := hb.cell 1
  have q2 : w.cell? ⟨p, 2, none⟩ = some (.int .i64 s.err) := hb.cell 2
  have f1 := hb.frozen 1
  have f2 := hb.frozen 2
  have hle := hok.1
  by_cases he : s.err = 0
  · have te : (s.err != 0) = false := by simp [he]
    have HE := Lib.hid he
    cases hv : vt 0 (bs.drop s.pos) with
    | error x =>
      have HR := Lib.hid (rU_err he hv)
      have hx := vt_err _ _ _ hv
      have tx : (x != 0) = true := by simp; omega
      have HK : Hid ((⟨s.pos, x⟩ : RS).ok bs) := ⟨hok.1, by show 0 ≤ x; omega, by show x ≤ 32; omega⟩
      have CV : Hid (∀ n, Calls Try.prog 90 #[.slice A bs.length c, .int .i64 (s.pos : Int)] (w.drewN n) fun e w' => e = .returned (.tuple #[.int .u64 0, .int .i64 0, .int .i64 x]) ∧ w.drewN n = w') := fun n =>
        (takeR_any bs s.pos bs.length c A (w.drewN n) hs hle hl).mono fun e w' ⟨h1, h2⟩ => ⟨by rw [h1]; unfold vres; rw [hv], h2⟩
      clear hb hs ha hok hv hx he hl
      go_enter Try.func66, Try.ntmps66
      go_wp2_with fail
      go_quiet ((go_at_call 90; exact quiet_left (CV.out _)))
      go_wp2_with fail
      go_ret
      exact ⟨by rw [HR.out]; rfl, by rw [HR.out]; exact (H.out.drewN _).put_err HK.out, frm_err _ _ _ _ _⟩
    | ok q =>
      obtain ⟨v, k⟩ := q
      have HR := Lib.hid (rU_ok he hv)
      obtain ⟨a1, a2, _, _, _⟩ := vt_bound _ 0 v k (by omega) hv
      rw [List.length_drop] at a2
      have HK : Hid ((⟨s.pos + k, s.err⟩ : RS).ok bs) := ⟨by have := hok.1; show s.pos + k ≤ _; omega, hok.2⟩
      have CV : Hid (∀ n, Calls Try.prog 90 #[.slice A bs.length c, .int .i64 (s.pos : Int)] (w.drewN n) fun e w' => e = .returned (.tuple #[.int .u64 (v : Int), .int .i64 ((s.pos + k : Nat) : Int), .int .i64 0]) ∧ w.drewN n = w') := fun n =>
        (takeR_any bs s.pos bs.length c A (w.drewN n) hs hle hl).mono fun e w' ⟨h1, h2⟩ => ⟨by rw [h1]; unfold vres; rw [hv], h2⟩
      generalize s.pos + k = m at *
      clear hb hs ha hok hv he hl a2
      go_enter Try.func66, Try.ntmps66
      go_wp2_with fail
      go_quiet ((go_at_call 90; exact quiet_left (CV.out _)))
      go_wp2_with fail
      go_ret
      have h4 := (H.out.drewN nq).put_pos HK.out
      rw [HE.out] at h4
      exact ⟨by rw [HR.out]; rfl, by rw [HR.out]; exact h4, frm_err _ _ _ _ _⟩
  · have te : (s.err != 0) = true := by simpa using he
    have HR := Lib.hid (rU_shut (bs := bs) he)
    clear hb hs ha hok he hl
    go_enter Try.func66, Try.ntmps66
    go_wp2_with fail
    go_ret
    exact ⟨by rw [HR.out]; rfl, by rw [HR.out]; exact H.out, Frm.refl _ _⟩

set_option maxRecDepth 100000 in
set_option maxHeartbeats 1000000 in
theorem signedR_any (n : Nat) (w : World) (hn : N64 n) : Calls Try.prog 88 #[.int .u64 (n : Int)] w fun e w' => e = .returned (.int .i64 (unzig n)) ∧ w = w' := by
  have HN := Lib.hid hn
  have hw : IntKind.u64.wrap ((n : Int) / 2) = (n : Int) / 2 := by unfold N64 at hn; rw [IntKind.wrap_u64]; omega
  clear hn
  by_cases h : n % 2 = 1
  · have t : ((n : Int) % 2 == 1) = true := by simp; omega
    have HU := Lib.hid (unzig_odd h)
    clear h
    go_enter Try.func88, Try.ntmps88
    go_wp2
    go_ret
    exact ⟨ret_int (by rw [HU.out]; exact unz_odd HN.out), rfl⟩
  · have t : ((n : Int) % 2 == 1) = false := by simp; omega
    have HU := Lib.hid (unzig_even h)
    clear h
    go_enter Try.func88, Try.ntmps88
    go_wp2
    go_ret
    exact ⟨ret_int (by rw [HU.out]; exact unz_even HN.out), rfl⟩

set_option maxRecDepth 100000 in
set_option maxHeartbeats 1000000 in
theorem rintR_any (p : Nat) (A : Option Addr) (bs : List UInt8) (s : RS) (w : World) (h : Rd 105 w p A bs s) :
    Calls Try.prog 63 #[.pointer (some ⟨p, 0, none⟩)] w (RdPost 105 p A bs (.int .i64 (rI bs s).1) (rI bs s).2 w) := by
  have H := Lib.hid h
  have HF := Lib.hid (rU_fine h.ok)
  have HZ := Lib.hid (rI_zero bs s)
  have HT := Lib.hid (rI_state bs s)
  clear h
  go_enter Try.func63, Try.ntmps63
  go_wp2_with fail
  refine (ruintR_any p A bs s _ H.out).mono ?_
  rintro e w1 ⟨rfl, h1, f1⟩
  have H1 := Lib.hid h1
  have F1 := Lib.hid f1
  clear h1 f1
  go_wp2_with fail
  refine (signedR_any _ _ HF.out.2.1).mono ?_
  rintro e w' ⟨rfl, rfl⟩
  go_wp2_with fail
  go_ret
  exact ⟨by rw [HZ.out]; rfl, by rw [HT.out]; exact H1.out, F1.out⟩

theorem rerrR_any (p : Nat) (A : Option Addr) (bs : List UInt8) (s : RS) (w : World) (h : Rd 105 w p A bs s) :
    Calls Try.prog 67 #[.pointer (some ⟨p, 0, none⟩)] w fun e w' => e = .returned (.int .i64 s.err) ∧ w = w' := by
  have hc := h.err_cell
  clear h
  go_enter Try.func67, Try.ntmps67
  go_wp2
  go_ret
  exact ⟨rfl, rfl⟩

set_option maxRecDepth 100000 in
set_option maxHeartbeats 1000000 in
theorem rleftR_any (p : Nat) (A : Option Addr) (bs : List UInt8) (s : RS) (w : World) (h : Rd 105 w p A bs s) :
    Calls Try.prog 68 #[.pointer (some ⟨p, 0, none⟩)] w fun e w' => e = .returned (.int .i64 (rLeft bs s : Int)) ∧ ∃ q, w' = w.drewN q := by
  obtain ⟨⟨c, hb, _⟩, hs, ha, hok, hl⟩ := h
  have q0 : w.cell? ⟨p, 0, none⟩ = some (.slice A bs.length c) := hb.cell 0
  have q1 : w.cell? ⟨p, 1, none⟩ = some (.int .i64 (s.pos : Int)) := hb.cell 1
  have q2 : w.cell? ⟨p, 2, none⟩ = some (.int .i64 s.err) := hb.cell 2
  have hle := hok.1
  clear hb hs ha hok
  by_cases he : s.err = 0
  · have HR : Hid (rLeft bs s = bs.length - s.pos) := by unfold rLeft; rw [if_pos he]; rfl
    have te : (s.err != 0) = false := by simp [he]
    clear he
    go_enter Try.func68, Try.ntmps68
    go_wp2_with fail
    go_quiet (fail)
    go_wp2_with fail
    go_ret
    exact ⟨ret_int (by rw [HR.out]; omega), _, rfl⟩
  · have HR : Hid (rLeft bs s = 0) := by unfold rLeft; rw [if_neg he]; rfl
    have te : (s.err != 0) = true := by simpa using he
    clear he
    go_enter Try.func68, Try.ntmps68
    go_wp2_with fail
    go_ret
    exact ⟨ret_int (by rw [HR.out]; rfl), 0, rfl⟩

set_option maxRecDepth 100000 in
set_option maxHeartbeats 2000000 in
theorem rlenR_any (p : Nat) (A : Option Addr) (bs : List UInt8) (most : Int) (s : RS) (w : World) (h : Rd 105 w p A bs s) (hm : I64 most) :
    Calls Try.prog 89 #[.pointer (some ⟨p, 0, none⟩), .int .i64 most] w (RdPost 105 p A bs (.int .u64 ((rLen bs most s).1 : Int)) (rLen bs most s).2 w) := by
  have H := Lib.hid h
  have HF := Lib.hid (rU_fine h.ok)
  have HM := Lib.hid hm
  clear h hm
  go_enter Try.func89, Try.ntmps89
  go_wp2_with fail
  refine (ruintR_any p A bs s _ H.out).mono ?_
  rintro e w1 ⟨rfl, h1, f1⟩
  have H1 := Lib.hid h1
  have F1 := Lib.hid f1
  clear h1 f1
  have HHit := Lib.hid (fun he h2 => rLen_hit (bs := bs) (s := s) (most := most) he h2)
  have HMiss := Lib.hid (fun h2 => rLen_miss (bs := bs) (s := s) (most := most) h2)
  obtain ⟨⟨c, hb, _⟩, hrest⟩ := H1.out
  have q2 : w1.cell? ⟨p, 2, none⟩ = some (.int .i64 (rU bs s).2.err) := hb.cell 2
  have f2 := hb.frozen 2
  clear hrest hb
  generalize rU bs s = r at *
  obtain ⟨n, s2⟩ := r
  have HK : Hid ((⟨s2.pos, 3⟩ : RS).ok bs) := ⟨HF.out.1.1, by show (0 : Int) ≤ 3; omega, by show (3 : Int) ≤ 32; omega⟩
  by_cases he : s2.err = 0
  · have te : (s2.err == 0) = true := by simp [he]
    by_cases h2 : max most 0 < (n : Int)
    · have HR := Lib.hid (HHit.out he h2)
      by_cases hm0 : most < 0
      · have hlt : (0 : Int) < (n : Int) := by omega
        clear h2 he
        go_wp2_with fail
        go_ret
        exact ⟨by rw [HR.out]; rfl, by rw [HR.out]; exact H1.out.put_err HK.out, F1.out.setCell (fun _ => rfl) _⟩
      · have hlt : most < (n : Int) := by omega
        have hz : IntKind.u64.wrap most = most := by have := HM.out.2; rw [IntKind.wrap_u64]; omega
        clear h2 he
        go_wp2_with fail
        go_ret
        exact ⟨by rw [HR.out]; rfl, by rw [HR.out]; exact H1.out.put_err HK.out, F1.out.setCell (fun _ => rfl) _⟩
    · have HR := Lib.hid (HMiss.out (fun g => h2 g.2))
      by_cases hm0 : most < 0
      · have hlt : (n : Int) ≤ 0 := by omega
        clear h2 he
        go_wp2_with fail
        go_ret
        exact ⟨by rw [HR.out]; exact ret_int (by show (0 : Int) = (n : Int); omega), by rw [HR.out]; exact H1.out, F1.out⟩
      · have hlt : (n : Int) ≤ most := by omega
        have hz : IntKind.u64.wrap most = most := by have := HM.out.2; rw [IntKind.wrap_u64]; omega
        clear h2 he
        go_wp2_with fail
        go_ret
        exact ⟨by rw [HR.out]; rfl, by rw [HR.out]; exact H1.out, F1.out⟩
  · have HR := Lib.hid (HMiss.out (fun g => he g.1))
    have te : (s2.err == 0) = false := by simpa using he
    clear he
    go_wp2_with fail
    go_ret
    exact ⟨by rw [HR.out]; rfl, by rw [HR.out]; exact H1.out, F1.out⟩
end Go.Proofs.Ythpmngdpgniehaa.Wr
