/-
  The walks of wire's Reader, third part: unzigzag, Int, Left, Err, length, Text. Conditions: the reader's block and its bytes lie in memory.
-/
import Derived.Test.YthpmngdpgniehaaWrR2
namespace Go.Proofs.Ythpmngdpgniehaa.Wr
open Go.RowKit Go.Proofs.Ythpmngdpgniehaa.Mem

theorem and_one (n : Nat) (h : N64 n) : bits .and .u64 (n : Int) 1 = ((n % 2 : Nat) : Int) := by
  have := u64_and_nat n 1 h (by decide)
  rw [nat_mask1] at this
  exact this
theorem unzig_odd {n : Nat} (h : n % 2 = 1) : unzig n = -((n / 2 : Nat) : Int) - 1 := by unfold unzig; rw [if_pos h]
theorem unzig_even {n : Nat} (h : ¬ n % 2 = 1) : unzig n = ((n / 2 : Nat) : Int) := by unfold unzig; rw [if_neg h]
theorem unz_even {n : Nat} (h : N64 n) : wrap64 ((n : Int) / 2) = ((n / 2 : Nat) : Int) := by
  unfold N64 at h
  rw [IntWalk.wrap64_in ((n : Int) / 2) ⟨by omega, by omega⟩]
  omega
theorem unz_odd {n : Nat} (h : N64 n) : wrap64 (wrap64 (-wrap64 ((n : Int) / 2)) - 1) = -((n / 2 : Nat) : Int) - 1 := by
  rw [unz_even h]
  unfold N64 at h
  rw [IntWalk.wrap64_in (-((n / 2 : Nat) : Int)) ⟨by omega, by omega⟩, IntWalk.wrap64_in (-((n / 2 : Nat) : Int) - 1) ⟨by omega, by omega⟩]
set_option maxRecDepth 100000 in
set_option maxHeartbeats 1000000 in
theorem unzigzag_any (n : Nat) (w : World) (hn : N64 n) : Calls Try.prog 84 #[.int .u64 (n : Int)] w fun e w' => e = .returned (.int .i64 (unzig n)) ∧ w = w' := by
  have HN := Lib.hid hn
  have ha := and_one n hn
  clear hn
  by_cases h : n % 2 = 1
  · have t : (bits .and .u64 (n : Int) 1 == 1) = true := by rw [ha]; simp; omega
    have HU := Lib.hid (unzig_odd h)
    clear h ha
    go_enter Try.func84, Try.ntmps84
    go_wp2
    go_ret
    exact ⟨ret_int (by rw [HU.out]; exact unz_odd HN.out), rfl⟩
  · have t : (bits .and .u64 (n : Int) 1 == 1) = false := by rw [ha]; simp; omega
    have HU := Lib.hid (unzig_even h)
    clear h ha
    go_enter Try.func84, Try.ntmps84
    go_wp2
    go_ret
    exact ⟨ret_int (by rw [HU.out]; exact unz_even HN.out), rfl⟩
theorem Frm.two {F : Nat → Prop} {w w' w'' : World} (h : Frm F w w') (k : Frm F w' w'') : Frm F w w'' := h.trans k fun _ _ g => g

set_option maxRecDepth 100000 in
set_option maxHeartbeats 1000000 in
theorem rint_any (p : Nat) (A : Option Addr) (bs : List UInt8) (s : RS) (w : World) (h : Rd 99 w p A bs s) :
    Calls Try.prog 56 #[.pointer (some ⟨p, 0, none⟩)] w (RdPost 99 p A bs (.int .i64 (rI bs s).1) (rI bs s).2 w) := by
  have H := Lib.hid h
  have HF := Lib.hid (rU_fine h.ok)
  clear h
  go_enter Try.func56, Try.ntmps56
  go_wp2_with fail
  refine (ruint_any p A bs s _ H.out).mono ?_
  rintro e w1 ⟨rfl, h1, f1⟩
  have H1 := Lib.hid h1
  have F1 := Lib.hid f1
  clear h1 f1
  go_wp2_with fail
  by_cases he : (rU bs s).2.err = 0
  · have HR : Hid (rI bs s = (unzig (rU bs s).1, (rU bs s).2)) := by unfold rI; rw [if_pos he]; rfl
    refine (ready_of H1.out true (by simpa using he)).mono ?_
    rintro e w' ⟨rfl, rfl⟩
    clear he
    go_wp2_with fail
    refine (unzigzag_any _ _ HF.out.2.1).mono ?_
    rintro e w' ⟨rfl, rfl⟩
    go_wp2_with fail
    go_ret
    exact ⟨by rw [HR.out]; rfl, by rw [HR.out]; exact H1.out, F1.out⟩
  · have HR : Hid (rI bs s = (0, (rU bs s).2)) := by unfold rI; rw [if_neg he]; rfl
    refine (ready_of H1.out false (by simpa using he)).mono ?_
    rintro e w' ⟨rfl, rfl⟩
    clear he
    go_wp2_with fail
    go_ret
    exact ⟨by rw [HR.out]; rfl, by rw [HR.out]; exact H1.out, F1.out⟩

theorem rerr_any (p : Nat) (A : Option Addr) (bs : List UInt8) (s : RS) (w : World) (h : Rd 99 w p A bs s) :
    Calls Try.prog 60 #[.pointer (some ⟨p, 0, none⟩)] w fun e w' => e = .returned (.int .i64 s.err) ∧ w = w' := by
  have hc := h.err_cell
  clear h
  go_enter Try.func60, Try.ntmps60
  go_wp2
  go_ret
  exact ⟨rfl, rfl⟩

set_option maxRecDepth 100000 in
set_option maxHeartbeats 1000000 in
theorem rleft_any (p : Nat) (A : Option Addr) (bs : List UInt8) (s : RS) (w : World) (h : Rd 99 w p A bs s) :
    Calls Try.prog 61 #[.pointer (some ⟨p, 0, none⟩)] w fun e w' => e = .returned (.int .i64 (rLeft bs s : Int)) ∧ ∃ q, w' = w.drewN q := by
  have H := Lib.hid h
  obtain ⟨⟨c, hb, _⟩, hs, ha, hok, hl⟩ := h
  have q0 : w.cell? ⟨p, 0, none⟩ = some (.slice A bs.length c) := hb.cell 0
  have q1 : w.cell? ⟨p, 1, none⟩ = some (.int .i64 (s.pos : Int)) := hb.cell 1
  have hle := hok.1
  clear hb hs ha hok
  by_cases he : s.err = 0
  · have HR : Hid (rLeft bs s = bs.length - s.pos) := by unfold rLeft; rw [if_pos he]; rfl
    have HE : Hid ((s.err == 0) = true) := by show _ = _; simpa using he
    clear he
    go_enter Try.func61, Try.ntmps61
    go_wp2_with fail
    refine (ready_of H.out true HE.out).mono ?_
    rintro e w' ⟨rfl, rfl⟩
    go_wp2_with fail
    go_quiet (fail)
    go_wp2_with fail
    go_ret
    exact ⟨ret_int (by rw [HR.out]; omega), _, rfl⟩
  · have HR : Hid (rLeft bs s = 0) := by unfold rLeft; rw [if_neg he]; rfl
    have HE : Hid ((s.err == 0) = false) := by show _ = _; simpa using he
    clear he
    go_enter Try.func61, Try.ntmps61
    go_wp2_with fail
    refine (ready_of H.out false HE.out).mono ?_
    rintro e w' ⟨rfl, rfl⟩
    go_wp2_with fail
    go_ret
    exact ⟨ret_int (by rw [HR.out]; rfl), 0, rfl⟩

/-! ### length, Text -/
theorem rLen_hit {bs : List UInt8} {most : Int} {s : RS} (h : (rU bs s).2.err = 0) (h2 : max most 0 < ((rU bs s).1 : Int)) : rLen bs most s = ((rU bs s).1, ⟨(rU bs s).2.pos, 3⟩) := by unfold rLen; rw [if_pos ⟨h, h2⟩]
theorem rLen_miss {bs : List UInt8} {most : Int} {s : RS} (h : ¬ ((rU bs s).2.err = 0 ∧ max most 0 < ((rU bs s).1 : Int))) : rLen bs most s = rU bs s := by unfold rLen; rw [if_neg h]
set_option maxRecDepth 100000 in
set_option maxHeartbeats 2000000 in
theorem rlen_any (p : Nat) (A : Option Addr) (bs : List UInt8) (most : Int) (s : RS) (w : World) (h : Rd 99 w p A bs s) (hm : I64 most) :
    Calls Try.prog 85 #[.pointer (some ⟨p, 0, none⟩), .int .i64 most] w (RdPost 99 p A bs (.int .u64 ((rLen bs most s).1 : Int)) (rLen bs most s).2 w) := by
  have H := Lib.hid h
  have HF := Lib.hid (rU_fine h.ok)
  have HM := Lib.hid hm
  clear h hm
  go_enter Try.func85, Try.ntmps85
  go_wp2_with fail
  refine (ruint_any p A bs s _ H.out).mono ?_
  rintro e w1 ⟨rfl, h1, f1⟩
  have H1 := Lib.hid h1
  have F1 := Lib.hid f1
  clear h1 f1
  go_wp2_with fail
  by_cases he : (rU bs s).2.err = 0
  · refine (ready_of H1.out true (by simpa using he)).mono ?_
    rintro e w' ⟨rfl, rfl⟩
    obtain ⟨⟨c, hb, _⟩, hrest⟩ := H1.out
    clear hrest
    have q2 : w1.cell? ⟨p, 2, none⟩ = some (.int .i64 (rU bs s).2.err) := hb.cell 2
    have f2 := hb.frozen 2
    have HHit := Lib.hid (fun h2 => rLen_hit (most := most) he h2)
    have HMiss := Lib.hid (fun h2 => rLen_miss (bs := bs) (s := s) (most := most) h2)
    generalize rU bs s = r at *
    obtain ⟨n, s2⟩ := r
    have HK : Hid ((⟨s2.pos, 3⟩ : RS).ok bs) := ⟨HF.out.1.1, by show (0 : Int) ≤ 3; omega, by show (3 : Int) ≤ 32; omega⟩
    clear hb
    by_cases h2 : max most 0 < (n : Int)
    · have HR := Lib.hid (HHit.out h2)
      by_cases hm0 : most < 0
      · have hlt : (0 : Int) < (n : Int) := by omega
        have hz : IntKind.u64.wrap 0 = 0 := by rw [IntKind.wrap_u64]; omega
        clear h2 he
        go_wp2_with fail
        go_ret
        exact ⟨by rw [HR.out]; rfl, by rw [HR.out]; exact H1.out.put_err HK.out, F1.out.setCell (fun _ => rfl) _⟩
      · have hlt : most < (n : Int) := by omega
        have hz : IntKind.u64.wrap most = most := by have := HM.out.2; rw [IntKind.wrap_u64]; omega
        clear h2 he
        go_wp2_with fail
        go_ret
        exact ⟨by rw [HR.out]; rfl, by rw [HR.out]; exact H1.out.put_err HK.out, F1.out.setCell (fun _ => rfl) _⟩
    · have HR := Lib.hid (HMiss.out (fun g => h2 g.2))
      by_cases hm0 : most < 0
      · have hlt : (n : Int) ≤ 0 := by omega
        have hz : IntKind.u64.wrap 0 = 0 := by rw [IntKind.wrap_u64]; omega
        clear h2 he
        go_wp2_with fail
        go_ret
        exact ⟨by rw [HR.out]; rfl, by rw [HR.out]; exact H1.out, F1.out⟩
      · have hlt : (n : Int) ≤ most := by omega
        have hz : IntKind.u64.wrap most = most := by have := HM.out.2; rw [IntKind.wrap_u64]; omega
        clear h2 he
        go_wp2_with fail
        go_ret
        exact ⟨by rw [HR.out]; rfl, by rw [HR.out]; exact H1.out, F1.out⟩
  · have HR := Lib.hid (rLen_miss (most := most) (fun g => he g.1))
    refine (ready_of H1.out false (by simpa using he)).mono ?_
    rintro e w' ⟨rfl, rfl⟩
    clear he
    go_wp2_with fail
    go_ret
    exact ⟨by rw [HR.out]; rfl, by rw [HR.out]; exact H1.out, F1.out⟩
end Go.Proofs.Ythpmngdpgniehaa.Wr
