/-
  The walks of within and Within: whether a record is within the limits. Conditions: the record lies in memory.
-/
import Derived.Test.YthpmngdpgniehaaJrDecW
namespace Go.Proofs.Ythpmngdpgniehaa.Jr
open Go.RowKit Go.Proofs.Ythpmngdpgniehaa.Mem Go.Proofs.Ythpmngdpgniehaa.Wr Go.Proofs.Ythpmngdpgniehaa.Opn

def withinB (r : Rec) : Bool := decide (r.name.size ≤ 24) && decide (r.text.size ≤ 32768) && decide (r.nums.length ≤ 256) && decide (r.ticket.size ≤ 24) && decide (r.amts.length ≤ 256)
theorem within_iff (r : Rec) : withinB r = true ↔ Within r := by
  unfold withinB
  simp only [Bool.and_eq_true, decide_eq_true_eq]
  exact ⟨fun ⟨⟨⟨⟨a, b⟩, c⟩, d⟩, e⟩ => ⟨a, b, c, d, e⟩, fun h => ⟨⟨⟨⟨h.name, h.text⟩, h.nums⟩, h.ticket⟩, h.amts⟩⟩

set_option maxRecDepth 100000 in
set_option maxHeartbeats 4000000 in
theorem within_any (r : Rec) (cs : Array Value) (w : World) (hr : IsRec w cs r) :
    Calls Try.prog 36 #[.agg cs] w fun e w' => e = .returned (.bool (withinB r)) ∧ Below w.heap.size w w' := by
  obtain ⟨A7, c7, A11, c11, rfl, _, _, _, _⟩ := hr
  unfold recCells
  obtain ⟨W, hW⟩ : ∃ W, W = w.alloc (.cells #[.int .i64 r.k0, .int .i64 r.k1, .int .i64 r.k2, .int .i64 r.k3, .int .i64 r.k4, .string r.name, .string r.text, .slice A7 r.nums.length c7, .int .u64 r.key, .int .u64 r.nonce, .string r.ticket, .slice A11 r.amts.length c11] 27) := ⟨_, rfl⟩
  have KB : Hid (Blk W w.heap.size 27 #[.int .i64 r.k0, .int .i64 r.k1, .int .i64 r.k2, .int .i64 r.k3, .int .i64 r.k4, .string r.name, .string r.text, .slice A7 r.nums.length c7, .int .u64 r.key, .int .u64 r.nonce, .string r.ticket, .slice A11 r.amts.length c11]) := by rw [hW]; exact Blk.new _ _ _
  have B0 : Hid (Below w.heap.size w W) := by rw [hW]; exact (Below.refl _ _).alloc (Nat.le_refl _) _
  have HW := Lib.hid hW
  have q5 : W.cell? ⟨w.heap.size, 5, none⟩ = some (.string r.name) := KB.out.cell 5
  have q6 : W.cell? ⟨w.heap.size, 6, none⟩ = some (.string r.text) := KB.out.cell 6
  have q7 : W.cell? ⟨w.heap.size, 7, none⟩ = some (.slice A7 r.nums.length c7) := KB.out.cell 7
  have q10 : W.cell? ⟨w.heap.size, 10, none⟩ = some (.string r.ticket) := KB.out.cell 10
  have q11 : W.cell? ⟨w.heap.size, 11, none⟩ = some (.slice A11 r.amts.length c11) := KB.out.cell 11
  have HD : Hid (withinB r = (decide (r.name.size ≤ 24) && decide (r.text.size ≤ 32768) && decide (r.nums.length ≤ 256) && decide (r.ticket.size ≤ 24) && decide (r.amts.length ≤ 256))) := rfl
  clear hW
  by_cases h0 : r.name.size ≤ 24
  · have i0 : ((r.name.size : Nat) : Int) ≤ 24 := by omega
    by_cases h1 : r.text.size ≤ 32768
    · have i1 : ((r.text.size : Nat) : Int) ≤ 32768 := by omega
      by_cases h2 : r.nums.length ≤ 256
      · have i2 : ((r.nums.length : Nat) : Int) ≤ 256 := by omega
        by_cases h3 : r.ticket.size ≤ 24
        · have i3 : ((r.ticket.size : Nat) : Int) ≤ 24 := by omega
          by_cases h4 : r.amts.length ≤ 256
          · have i4 : ((r.amts.length : Nat) : Int) ≤ 256 := by omega
            have HE : Hid (withinB r = true) := by show _ = _; rw [HD.out]; simp [h0, h1, h2, h3, h4]
            clear h0 h1 h2 h3 h4 HD
            go_enter Try.func36, Try.ntmps36
            go_wp2_with fail
            rw [← HW.out]
            go_wp2_with fail
            go_ret
            exact ⟨by rw [HE.out]; rfl, B0.out⟩
          · have i4 : (256 : Int) < ((r.amts.length : Nat) : Int) := by omega
            have td : decide (((r.amts.length : Nat) : Int) ≤ 256) = false := by simp; omega
            have HE : Hid (withinB r = false) := by show _ = _; rw [HD.out]; simp [h0, h1, h2, h3, h4]
            clear h0 h1 h2 h3 h4 HD
            go_enter Try.func36, Try.ntmps36
            go_wp2_with fail
            rw [← HW.out]
            go_wp2_with fail
            go_ret
            exact ⟨by rw [HE.out]; rfl, B0.out⟩
        · have i3 : (24 : Int) < ((r.ticket.size : Nat) : Int) := by omega
          have td : decide (((r.ticket.size : Nat) : Int) ≤ 24) = false := by simp; omega
          have HE : Hid (withinB r = false) := by show _ = _; rw [HD.out]; simp [h0, h1, h2, h3]
          clear h0 h1 h2 h3 HD
          go_enter Try.func36, Try.ntmps36
          go_wp2_with fail
          rw [← HW.out]
          go_wp2_with fail
          go_ret
          exact ⟨by rw [HE.out]; rfl, B0.out⟩
      · have i2 : (256 : Int) < ((r.nums.length : Nat) : Int) := by omega
        have td : decide (((r.nums.length : Nat) : Int) ≤ 256) = false := by simp; omega
        have HE : Hid (withinB r = false) := by show _ = _; rw [HD.out]; simp [h0, h1, h2]
        clear h0 h1 h2 HD
        go_enter Try.func36, Try.ntmps36
        go_wp2_with fail
        rw [← HW.out]
        go_wp2_with fail
        go_ret
        exact ⟨by rw [HE.out]; rfl, B0.out⟩
    · have i1 : (32768 : Int) < ((r.text.size : Nat) : Int) := by omega
      have td : decide (((r.text.size : Nat) : Int) ≤ 32768) = false := by simp; omega
      have HE : Hid (withinB r = false) := by show _ = _; rw [HD.out]; simp [h0, h1]
      clear h0 h1 HD
      go_enter Try.func36, Try.ntmps36
      go_wp2_with fail
      rw [← HW.out]
      go_wp2_with fail
      go_ret
      exact ⟨by rw [HE.out]; rfl, B0.out⟩
  · have i0 : (24 : Int) < ((r.name.size : Nat) : Int) := by omega
    have td : decide (((r.name.size : Nat) : Int) ≤ 24) = false := by simp; omega
    have HE : Hid (withinB r = false) := by show _ = _; rw [HD.out]; simp [h0]
    clear h0 HD
    go_enter Try.func36, Try.ntmps36
    go_wp2_with fail
    rw [← HW.out]
    go_wp2_with fail
    go_ret
    exact ⟨by rw [HE.out]; rfl, B0.out⟩

set_option maxRecDepth 100000 in
set_option maxHeartbeats 4000000 in
theorem withinR_any (r : Rec) (cs : Array Value) (w : World) (hr : IsRec w cs r) :
    Calls Try.prog 29 #[.agg cs] w fun e w' => e = .returned (.bool (withinB r)) ∧ Below w.heap.size w w' := by
  obtain ⟨A7, c7, A11, c11, rfl, _, _, _, _⟩ := hr
  unfold recCells
  obtain ⟨W, hW⟩ : ∃ W, W = w.alloc (.cells #[.int .i64 r.k0, .int .i64 r.k1, .int .i64 r.k2, .int .i64 r.k3, .int .i64 r.k4, .string r.name, .string r.text, .slice A7 r.nums.length c7, .int .u64 r.key, .int .u64 r.nonce, .string r.ticket, .slice A11 r.amts.length c11] 27) := ⟨_, rfl⟩
  have KB : Hid (Blk W w.heap.size 27 #[.int .i64 r.k0, .int .i64 r.k1, .int .i64 r.k2, .int .i64 r.k3, .int .i64 r.k4, .string r.name, .string r.text, .slice A7 r.nums.length c7, .int .u64 r.key, .int .u64 r.nonce, .string r.ticket, .slice A11 r.amts.length c11]) := by rw [hW]; exact Blk.new _ _ _
  have B0 : Hid (Below w.heap.size w W) := by rw [hW]; exact (Below.refl _ _).alloc (Nat.le_refl _) _
  have HW := Lib.hid hW
  have q5 : W.cell? ⟨w.heap.size, 5, none⟩ = some (.string r.name) := KB.out.cell 5
  have q6 : W.cell? ⟨w.heap.size, 6, none⟩ = some (.string r.text) := KB.out.cell 6
  have q7 : W.cell? ⟨w.heap.size, 7, none⟩ = some (.slice A7 r.nums.length c7) := KB.out.cell 7
  have q10 : W.cell? ⟨w.heap.size, 10, none⟩ = some (.string r.ticket) := KB.out.cell 10
  have q11 : W.cell? ⟨w.heap.size, 11, none⟩ = some (.slice A11 r.amts.length c11) := KB.out.cell 11
  have HD : Hid (withinB r = (decide (r.name.size ≤ 24) && decide (r.text.size ≤ 32768) && decide (r.nums.length ≤ 256) && decide (r.ticket.size ≤ 24) && decide (r.amts.length ≤ 256))) := rfl
  clear hW
  by_cases h0 : r.name.size ≤ 24
  · have i0 : ((r.name.size : Nat) : Int) ≤ 24 := by omega
    by_cases h1 : r.text.size ≤ 32768
    · have i1 : ((r.text.size : Nat) : Int) ≤ 32768 := by omega
      by_cases h2 : r.nums.length ≤ 256
      · have i2 : ((r.nums.length : Nat) : Int) ≤ 256 := by omega
        by_cases h3 : r.ticket.size ≤ 24
        · have i3 : ((r.ticket.size : Nat) : Int) ≤ 24 := by omega
          by_cases h4 : r.amts.length ≤ 256
          · have i4 : ((r.amts.length : Nat) : Int) ≤ 256 := by omega
            have HE : Hid (withinB r = true) := by show _ = _; rw [HD.out]; simp [h0, h1, h2, h3, h4]
            clear h0 h1 h2 h3 h4 HD
            go_enter Try.func29, Try.ntmps29
            go_wp2_with fail
            rw [← HW.out]
            go_wp2_with fail
            go_ret
            exact ⟨by rw [HE.out]; rfl, B0.out⟩
          · have i4 : (256 : Int) < ((r.amts.length : Nat) : Int) := by omega
            have td : decide (((r.amts.length : Nat) : Int) ≤ 256) = false := by simp; omega
            have HE : Hid (withinB r = false) := by show _ = _; rw [HD.out]; simp [h0, h1, h2, h3, h4]
            clear h0 h1 h2 h3 h4 HD
            go_enter Try.func29, Try.ntmps29
            go_wp2_with fail
            rw [← HW.out]
            go_wp2_with fail
            go_ret
            exact ⟨by rw [HE.out]; rfl, B0.out⟩
        · have i3 : (24 : Int) < ((r.ticket.size : Nat) : Int) := by omega
          have td : decide (((r.ticket.size : Nat) : Int) ≤ 24) = false := by simp; omega
          have HE : Hid (withinB r = false) := by show _ = _; rw [HD.out]; simp [h0, h1, h2, h3]
          clear h0 h1 h2 h3 HD
          go_enter Try.func29, Try.ntmps29
          go_wp2_with fail
          rw [← HW.out]
          go_wp2_with fail
          go_ret
          exact ⟨by rw [HE.out]; rfl, B0.out⟩
      · have i2 : (256 : Int) < ((r.nums.length : Nat) : Int) := by omega
        have td : decide (((r.nums.length : Nat) : Int) ≤ 256) = false := by simp; omega
        have HE : Hid (withinB r = false) := by show _ = _; rw [HD.out]; simp [h0, h1, h2]
        clear h0 h1 h2 HD
        go_enter Try.func29, Try.ntmps29
        go_wp2_with fail
        rw [← HW.out]
        go_wp2_with fail
        go_ret
        exact ⟨by rw [HE.out]; rfl, B0.out⟩
    · have i1 : (32768 : Int) < ((r.text.size : Nat) : Int) := by omega
      have td : decide (((r.text.size : Nat) : Int) ≤ 32768) = false := by simp; omega
      have HE : Hid (withinB r = false) := by show _ = _; rw [HD.out]; simp [h0, h1]
      clear h0 h1 HD
      go_enter Try.func29, Try.ntmps29
      go_wp2_with fail
      rw [← HW.out]
      go_wp2_with fail
      go_ret
      exact ⟨by rw [HE.out]; rfl, B0.out⟩
  · have i0 : (24 : Int) < ((r.name.size : Nat) : Int) := by omega
    have td : decide (((r.name.size : Nat) : Int) ≤ 24) = false := by simp; omega
    have HE : Hid (withinB r = false) := by show _ = _; rw [HD.out]; simp [h0]
    clear h0 HD
    go_enter Try.func29, Try.ntmps29
    go_wp2_with fail
    rw [← HW.out]
    go_wp2_with fail
    go_ret
    exact ⟨by rw [HE.out]; rfl, B0.out⟩
end Go.Proofs.Ythpmngdpgniehaa.Jr
