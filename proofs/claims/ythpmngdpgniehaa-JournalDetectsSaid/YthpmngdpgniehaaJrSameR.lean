/-
  The walk of the reference's Same: it says whether all fields of two records are equal. Conditions: the records lie in memory, their lists of a length that an int holds.
-/
import Derived.Test.YthpmngdpgniehaaJrSame
namespace Go.Proofs.Ythpmngdpgniehaa.Jr
open Go.RowKit Go.Proofs.Ythpmngdpgniehaa.Mem Go.Proofs.Ythpmngdpgniehaa.Eqs
def Rec.seven (r s : Rec) : Bool := (r.k0 == s.k0) && (r.k1 == s.k1) && (r.k2 == s.k2) && (r.k3 == s.k3) && (r.k4 == s.k4) && (r.name.toList == s.name.toList) && (r.text.toList == s.text.toList)
theorem Rec.same_eq (r s : Rec) : r.same s = (r.seven s && (decide (r.nums = s.nums)) && (r.key == s.key) && (r.nonce == s.nonce) && (r.ticket.toList == s.ticket.toList) && (decide (r.amts = s.amts))) := by
  simp only [Rec.same, Rec.seven, Bool.and_assoc]

set_option maxRecDepth 100000 in
set_option maxHeartbeats 8000000 in
theorem sameR_core (r s : Rec) (A7 : Option Addr) (Ac7 : Nat) (A11 : Option Addr) (Ac11 : Nat) (B7 : Option Addr) (Bc7 : Nat) (B11 : Option Addr) (Bc11 : Nat) (w : World)
    (ha7 : Sl w 1 A7 r.nums.length (ints r.nums)) (ha11 : Sl w 1 A11 r.amts.length (ints r.amts)) (hb7 : Sl w 1 B7 s.nums.length (ints s.nums)) (hb11 : Sl w 1 B11 s.amts.length (ints s.amts))
    (l7 : r.nums.length ≤ 9223372036854775807) (l11 : r.amts.length ≤ 9223372036854775807) :
    Calls Try.prog 15 #[.agg #[.int .i64 r.k0, .int .i64 r.k1, .int .i64 r.k2, .int .i64 r.k3, .int .i64 r.k4, .string r.name, .string r.text, .slice A7 r.nums.length Ac7, .int .u64 r.key, .int .u64 r.nonce, .string r.ticket, .slice A11 r.amts.length Ac11], .agg #[.int .i64 s.k0, .int .i64 s.k1, .int .i64 s.k2, .int .i64 s.k3, .int .i64 s.k4, .string s.name, .string s.text, .slice B7 s.nums.length Bc7, .int .u64 s.key, .int .u64 s.nonce, .string s.ticket, .slice B11 s.amts.length Bc11]] w fun e w' => e = .returned (.bool (r.same s)) ∧ Below w.heap.size w w' := by
  obtain ⟨W, hW⟩ : ∃ W, W = (((w.alloc (.cells #[.int .i64 r.k0, .int .i64 r.k1, .int .i64 r.k2, .int .i64 r.k3, .int .i64 r.k4, .string r.name, .string r.text, .slice A7 r.nums.length Ac7, .int .u64 r.key, .int .u64 r.nonce, .string r.ticket, .slice A11 r.amts.length Ac11] 27)).alloc (.cells #[.int .i64 s.k0, .int .i64 s.k1, .int .i64 s.k2, .int .i64 s.k3, .int .i64 s.k4, .string s.name, .string s.text, .slice B7 s.nums.length Bc7, .int .u64 s.key, .int .u64 s.nonce, .string s.ticket, .slice B11 s.amts.length Bc11] 27)).alloc (.cells #[.int .i64 r.k0, .int .i64 r.k1, .int .i64 r.k2, .int .i64 r.k3, .int .i64 r.k4, .string r.name, .string r.text, .slice A7 r.nums.length Ac7, .int .u64 r.key, .int .u64 r.nonce] 25)).alloc (.cells #[.int .i64 s.k0, .int .i64 s.k1, .int .i64 s.k2, .int .i64 s.k3, .int .i64 s.k4, .string s.name, .string s.text, .slice B7 s.nums.length Bc7, .int .u64 s.key, .int .u64 s.nonce] 25) := ⟨_, rfl⟩
  have kN : Blk W w.heap.size 27 #[.int .i64 r.k0, .int .i64 r.k1, .int .i64 r.k2, .int .i64 r.k3, .int .i64 r.k4, .string r.name, .string r.text, .slice A7 r.nums.length Ac7, .int .u64 r.key, .int .u64 r.nonce, .string r.ticket, .slice A11 r.amts.length Ac11] := by rw [hW]; exact (((Blk.at _ _ _ rfl).alloc _).alloc _).alloc _
  have kM : Blk W (w.heap.size + 1) 27 #[.int .i64 s.k0, .int .i64 s.k1, .int .i64 s.k2, .int .i64 s.k3, .int .i64 s.k4, .string s.name, .string s.text, .slice B7 s.nums.length Bc7, .int .u64 s.key, .int .u64 s.nonce, .string s.ticket, .slice B11 s.amts.length Bc11] := by rw [hW]; exact ((Blk.at _ _ _ (by simp)).alloc _).alloc _
  have k5 : Blk W (w.heap.size + 1 + 1) 25 #[.int .i64 r.k0, .int .i64 r.k1, .int .i64 r.k2, .int .i64 r.k3, .int .i64 r.k4, .string r.name, .string r.text, .slice A7 r.nums.length Ac7, .int .u64 r.key, .int .u64 r.nonce] := by rw [hW]; exact (Blk.at _ _ _ (by simp)).alloc _
  have k6 : Blk W (w.heap.size + 1 + 1 + 1) 25 #[.int .i64 s.k0, .int .i64 s.k1, .int .i64 s.k2, .int .i64 s.k3, .int .i64 s.k4, .string s.name, .string s.text, .slice B7 s.nums.length Bc7, .int .u64 s.key, .int .u64 s.nonce] := by rw [hW]; exact Blk.at _ _ _ (by simp)
  have hbel : Below w.heap.size w W := by rw [hW]; exact ((((Below.refl _ _).alloc (Nat.le_refl _) _).alloc (by simp) _).alloc (by simp; omega) _).alloc (by simp; omega) _
  have C7 : Hid (Calls Try.prog 39 #[.slice A7 r.nums.length Ac7, .slice B7 s.nums.length Bc7] W fun e w' => e = .returned (.bool (decide (r.nums = s.nums))) ∧ ∃ q', w' = W.drewN q') := 
    (ints50 r.nums s.nums _ _ _ _ _ _ _ (ha7.below hbel (Nat.le_refl _)) (hb7.below hbel (Nat.le_refl _)) l7)
  have C11 : Hid (∀ q, Calls Try.prog 39 #[.slice A11 r.amts.length Ac11, .slice B11 s.amts.length Bc11] (W.drewN q) fun e w' => e = .returned (.bool (decide (r.amts = s.amts))) ∧ ∃ q', w' = W.drewN q') := fun q =>
    (ints50 r.amts s.amts _ _ _ _ _ _ _ ((ha11.below hbel (Nat.le_refl _)).drewN q) ((hb11.below hbel (Nat.le_refl _)).drewN q) l11).mono fun e w' ⟨he, m, hm⟩ => ⟨he, q + m, by rw [hm, World.drewN_drewN]⟩
  have HBl := Lib.hid hbel
  have HW := Lib.hid hW
  have HK := Lib.hid (And.intro (And.intro kN kM) (And.intro k5 k6))
  have HS := Lib.hid (Rec.same_eq r s)
  clear hW hbel ha7 ha11 hb7 hb11 l7 l11 kN kM k5 k6
  go_enter Try.func15, Try.ntmps15
  go_upto_region 3 with fail
  rw [← HW.out]
  clear HW
  obtain ⟨⟨kN, kM⟩, k5, k6⟩ := HK.out
  have x0 : W.cell? ⟨w.heap.size + 1 + 1, 0, none⟩ = some (.int .i64 r.k0) := k5.cell 0
  have y0 : W.cell? ⟨w.heap.size + 1 + 1 + 1, 0, none⟩ = some (.int .i64 s.k0) := k6.cell 0
  have x1 : W.cell? ⟨w.heap.size + 1 + 1, 1, none⟩ = some (.int .i64 r.k1) := k5.cell 1
  have y1 : W.cell? ⟨w.heap.size + 1 + 1 + 1, 1, none⟩ = some (.int .i64 s.k1) := k6.cell 1
  have x2 : W.cell? ⟨w.heap.size + 1 + 1, 2, none⟩ = some (.int .i64 r.k2) := k5.cell 2
  have y2 : W.cell? ⟨w.heap.size + 1 + 1 + 1, 2, none⟩ = some (.int .i64 s.k2) := k6.cell 2
  have x3 : W.cell? ⟨w.heap.size + 1 + 1, 3, none⟩ = some (.int .i64 r.k3) := k5.cell 3
  have y3 : W.cell? ⟨w.heap.size + 1 + 1 + 1, 3, none⟩ = some (.int .i64 s.k3) := k6.cell 3
  have x4 : W.cell? ⟨w.heap.size + 1 + 1, 4, none⟩ = some (.int .i64 r.k4) := k5.cell 4
  have y4 : W.cell? ⟨w.heap.size + 1 + 1 + 1, 4, none⟩ = some (.int .i64 s.k4) := k6.cell 4
  have x5 : W.cell? ⟨w.heap.size + 1 + 1, 5, none⟩ = some (.string r.name) := k5.cell 5
  have y5 : W.cell? ⟨w.heap.size + 1 + 1 + 1, 5, none⟩ = some (.string s.name) := k6.cell 5
  have x6 : W.cell? ⟨w.heap.size + 1 + 1, 6, none⟩ = some (.string r.text) := k5.cell 6
  have y6 : W.cell? ⟨w.heap.size + 1 + 1 + 1, 6, none⟩ = some (.string s.text) := k6.cell 6
  have x7 : W.cell? ⟨w.heap.size + 1 + 1, 7, none⟩ = some (.slice A7 r.nums.length Ac7) := k5.cell 7
  have y7 : W.cell? ⟨w.heap.size + 1 + 1 + 1, 7, none⟩ = some (.slice B7 s.nums.length Bc7) := k6.cell 7
  have x8 : W.cell? ⟨w.heap.size + 1 + 1, 8, none⟩ = some (.int .u64 r.key) := k5.cell 8
  have y8 : W.cell? ⟨w.heap.size + 1 + 1 + 1, 8, none⟩ = some (.int .u64 s.key) := k6.cell 8
  have x9 : W.cell? ⟨w.heap.size + 1 + 1, 9, none⟩ = some (.int .u64 r.nonce) := k5.cell 9
  have y9 : W.cell? ⟨w.heap.size + 1 + 1 + 1, 9, none⟩ = some (.int .u64 s.nonce) := k6.cell 9
  have x10 : W.cell? ⟨w.heap.size, 10, none⟩ = some (.string r.ticket) := kN.cell 10
  have y10 : W.cell? ⟨w.heap.size + 1, 10, none⟩ = some (.string s.ticket) := kM.cell 10
  have x11 : W.cell? ⟨w.heap.size, 11, none⟩ = some (.slice A11 r.amts.length Ac11) := kN.cell 11
  have y11 : W.cell? ⟨w.heap.size + 1, 11, none⟩ = some (.slice B11 s.amts.length Bc11) := kM.cell 11
  clear HK kN kM k5 k6
  generalize (Value.agg #[.int .i64 r.k0, .int .i64 r.k1, .int .i64 r.k2, .int .i64 r.k3, .int .i64 r.k4, .string r.name, .string r.text, .slice A7 r.nums.length Ac7, .int .u64 r.key, .int .u64 r.nonce, .string r.ticket, .slice A11 r.amts.length Ac11]) = X
  generalize (Value.agg #[.int .i64 s.k0, .int .i64 s.k1, .int .i64 s.k2, .int .i64 s.k3, .int .i64 s.k4, .string s.name, .string s.text, .slice B7 s.nums.length Bc7, .int .u64 s.key, .int .u64 s.nonce, .string s.ticket, .slice B11 s.amts.length Bc11]) = Y
  go_cut [57] (fun s57 wx => s57 = .bool (!(r.seven s)) ∧ wx = W)
  case first =>
    clear C7 C11 HBl HS
    cases e0 : (r.k0 == s.k0) with
    | false =>
      have f0 : (r.k0 != s.k0) = true := by simpa using e0
      go_wp2_with fail
      go_meet
      exact ⟨by simp [Rec.seven, e0], rfl⟩
    | true =>
      have f0 : (r.k0 != s.k0) = false := by simpa using e0
      cases e1 : (r.k1 == s.k1) with
      | false =>
        have f1 : (r.k1 != s.k1) = true := by simpa using e1
        go_wp2_with fail
        go_meet
        exact ⟨by simp [Rec.seven, e0, e1], rfl⟩
      | true =>
        have f1 : (r.k1 != s.k1) = false := by simpa using e1
        cases e2 : (r.k2 == s.k2) with
        | false =>
          have f2 : (r.k2 != s.k2) = true := by simpa using e2
          go_wp2_with fail
          go_meet
          exact ⟨by simp [Rec.seven, e0, e1, e2], rfl⟩
        | true =>
          have f2 : (r.k2 != s.k2) = false := by simpa using e2
          cases e3 : (r.k3 == s.k3) with
          | false =>
            have f3 : (r.k3 != s.k3) = true := by simpa using e3
            go_wp2_with fail
            go_meet
            exact ⟨by simp [Rec.seven, e0, e1, e2, e3], rfl⟩
          | true =>
            have f3 : (r.k3 != s.k3) = false := by simpa using e3
            cases e4 : (r.k4 == s.k4) with
            | false =>
              have f4 : (r.k4 != s.k4) = true := by simpa using e4
              go_wp2_with fail
              go_meet
              exact ⟨by simp [Rec.seven, e0, e1, e2, e3, e4], rfl⟩
            | true =>
              have f4 : (r.k4 != s.k4) = false := by simpa using e4
              cases e5 : (r.name.toList == s.name.toList) with
              | false =>
                have f5 : (r.name.toList != s.name.toList) = true := by simpa using e5
                go_wp2_with fail
                go_meet
                exact ⟨by simp [Rec.seven, e0, e1, e2, e3, e4, e5], rfl⟩
              | true =>
                have f5 : (r.name.toList != s.name.toList) = false := by simpa using e5
                cases e6 : (r.text.toList == s.text.toList) with
                | false =>
                  have f6 : (r.text.toList != s.text.toList) = true := by simpa using e6
                  go_wp2_with fail
                  go_meet
                  exact ⟨by simp [Rec.seven, e0, e1, e2, e3, e4, e5, e6], rfl⟩
                | true =>
                  have f6 : (r.text.toList != s.text.toList) = false := by simpa using e6
                  go_wp2_with fail
                  go_meet
                  exact ⟨by simp [Rec.seven, e0, e1, e2, e3, e4, e5, e6], rfl⟩
  case rest =>
    obtain ⟨rfl, rfl⟩ := hcut
    cases hv : r.seven s with
    | false =>
      have HS2 : Hid (r.same s = false) := by have := HS.out; rw [hv, Bool.false_and] at this; exact this
      clear C7 C11 HS
      go_wp2_with fail
      go_ret
      exact ⟨ret_bool HS2.out.symm, HBl.out⟩
    | true =>
      have HS2 : Hid (r.same s = ((decide (r.nums = s.nums)) && (r.key == s.key) && (r.nonce == s.nonce) && (r.ticket.toList == s.ticket.toList) && (decide (r.amts = s.amts)))) := by have := HS.out; rw [hv, Bool.true_and] at this; exact this
      clear HS
      cases e7 : (decide (r.nums = s.nums)) with
      | false =>
        go_wp2_with fail
        refine C7.out.mono ?_
        rintro e w7 ⟨rfl, q7, rfl⟩
        go_wp2_with fail
        go_ret
        exact ⟨ret_bool (by rw [HS2.out]; simp [e7]), below_drewN HBl.out q7⟩
      | true =>
        cases e8 : (r.key == s.key) with
        | false =>
          go_wp2_with fail
          refine C7.out.mono ?_
          rintro e w7 ⟨rfl, q7, rfl⟩
          go_wp2_with fail
          go_ret
          exact ⟨ret_bool (by rw [HS2.out]; simp [e7, e8]), below_drewN HBl.out q7⟩
        | true =>
          cases e9 : (r.nonce == s.nonce) with
          | false =>
            go_wp2_with fail
            refine C7.out.mono ?_
            rintro e w7 ⟨rfl, q7, rfl⟩
            go_wp2_with fail
            go_ret
            exact ⟨ret_bool (by rw [HS2.out]; simp [e7, e8, e9]), below_drewN HBl.out q7⟩
          | true =>
            cases e10 : (r.ticket.toList == s.ticket.toList) with
            | false =>
              go_wp2_with fail
              refine C7.out.mono ?_
              rintro e w7 ⟨rfl, q7, rfl⟩
              go_wp2_with fail
              go_ret
              exact ⟨ret_bool (by rw [HS2.out]; simp [e7, e8, e9, e10]), below_drewN HBl.out q7⟩
            | true =>
              cases e11 : (decide (r.amts = s.amts)) with
              | false =>
                go_wp2_with fail
                refine C7.out.mono ?_
                rintro e w7 ⟨rfl, q7, rfl⟩
                go_wp2_with fail
                refine (C11.out q7).mono ?_
                rintro e w11 ⟨rfl, q11, rfl⟩
                go_wp2_with fail
                go_ret
                exact ⟨ret_bool (by rw [HS2.out]; simp [e7, e8, e9, e10, e11]), below_drewN HBl.out q11⟩
              | true =>
                go_wp2_with fail
                refine C7.out.mono ?_
                rintro e w7 ⟨rfl, q7, rfl⟩
                go_wp2_with fail
                refine (C11.out q7).mono ?_
                rintro e w11 ⟨rfl, q11, rfl⟩
                go_wp2_with fail
                go_ret
                exact ⟨ret_bool (by rw [HS2.out]; simp [e7, e8, e9, e10, e11]), below_drewN HBl.out q11⟩

theorem sameR_any (cs ds : Array Value) (r s : Rec) (w : World) (hr : IsRec w cs r) (hs : IsRec w ds s) :
    Calls Try.prog 15 #[.agg cs, .agg ds] w fun e w' => e = .returned (.bool (r.same s)) ∧ Below w.heap.size w w' := by
  obtain ⟨A7, c7, A11, c11, rfl, h7, h11, l7, l11⟩ := hr
  obtain ⟨B7, d7, B11, d11, rfl, g7, g11, _, _⟩ := hs
  exact sameR_core r s A7 c7 A11 c11 B7 d7 B11 d11 w h7 h11 g7 g11 l7 l11
end Go.Proofs.Ythpmngdpgniehaa.Jr
