/-
  The walk of few of package lotterylaw50: what it returns, and that it changes nothing that was there. Conditions: the records lie in memory.
-/
import Derived.Test.YthpmngdpgniehaaJrAwk
namespace Go.Proofs.Ythpmngdpgniehaa.Jr
open Go.RowKit Go.Proofs.Ythpmngdpgniehaa.Mem Go.Proofs.Ythpmngdpgniehaa.Wr Go.Proofs.Ythpmngdpgniehaa.Opn
attribute [local go_sem ↓] exec_load_rec exec_store_rec

def smallB (r : Rec) : Bool := decide (r.name.size ≤ 3000 ∧ r.text.size ≤ 3000 ∧ r.nums.length ≤ 3000 ∧ r.ticket.size ≤ 3000 ∧ r.amts.length ≤ 3000)
def fewB (rs : List Rec) : Bool := decide (rs.length ≤ 60) && rs.all smallB
theorem few_yes_of {rs : List Rec} (h : rs.length ≤ 60) (ha : rs.all smallB = true) : fewB rs = true := by unfold fewB; simp [h]; simpa using ha
theorem few_no_len {rs : List Rec} (h : ¬ rs.length ≤ 60) : fewB rs = false := by unfold fewB; simp [h]
theorem few_no_at {rs : List Rec} {k : Nat} (hk : k < rs.length) (h : smallB rs[k] = false) : fewB rs = false := by
  unfold fewB
  have : rs.all smallB = false := by
    rw [List.all_eq_false]
    exact ⟨rs[k], List.getElem_mem hk, by rw [h]; simp⟩
  rw [this, Bool.and_false]
theorem small_step {rs : List Rec} {k : Nat} (hk : k < rs.length) (h : (rs.take k).all smallB = true) (h2 : smallB rs[k] = true) : (rs.take (k + 1)).all smallB = true := by
  rw [List.take_succ_eq_append_getElem hk, List.all_append, h]
  simp [h2]
theorem few_lim {rs : List Rec} (h : fewB rs = true) : rs.length ≤ 60 ∧ ∀ r ∈ rs, Lim r := by
  unfold fewB at h
  simp only [Bool.and_eq_true, decide_eq_true_eq, List.all_eq_true] at h
  refine ⟨h.1, fun r hr => ?_⟩
  have := h.2 r hr
  unfold smallB at this
  simp only [decide_eq_true_eq] at this
  exact ⟨by omega, by omega, by omega, by omega, by omega⟩
set_option maxRecDepth 100000 in
set_option maxHeartbeats 8000000 in
theorem few_any (rs : List Rec) (A : Option Addr) (n c : Nat) (w : World) (hn : rs.length = n) (h : RecSl w A rs) :
    Calls Try.prog 11 #[.slice A n c] w fun e w' => e = .returned (.bool (fewB rs)) ∧ Below w.heap.size w w' := by
  have LN := Lib.hid hn
  have H := Lib.hid h
  clear h hn
  by_cases h60 : n ≤ 60
  · have h60i : (n : Int) ≤ 60 := by omega
    go_enter Try.func11, Try.ntmps11
    go_wp2_with fail
    go_loopw [10] (fun i wr => ∃ k : Nat, k ≤ n ∧ i = .int .i64 k ∧ Hid ((rs.take k).all smallB = true) ∧ Hid (Below w.heap.size w wr)) (fun i _ => n - (intOf i).toNat)
    case atStart => exact ⟨0, by omega, rfl, rfl, Below.refl _ _⟩
    case round =>
      obtain ⟨k, hk, rfl, HA, HB⟩ := hrel
      by_cases hlt : k < n
      · have kl : k < rs.length := by have := LN.out; omega
        obtain ⟨b, off, cs, rfl, _, hi, hc⟩ := H.out k _ (List.getElem?_eq_getElem kl)
        have ld : (loadRow 27 (.pointer (some ⟨b, off + k * 12, none⟩))).run Try.prog wr = .ok (.agg cs) wr := load_rec (fun j u hu => (HB.out.cell (World.block_lt_of_cell? w _ (hc j u hu))).trans (hc j u hu)) (rec_size hi)
        have kz : Blk (wr.alloc (.cells #[.int .i64 0, .int .i64 0, .int .i64 0, .int .i64 0, .int .i64 0, .string ⟨#[]⟩, .string ⟨#[]⟩, .slice none 0 0, .int .u64 0, .int .u64 0, .string ⟨#[]⟩, .slice none 0 0] 27)) wr.heap.size 27 #[.int .i64 0, .int .i64 0, .int .i64 0, .int .i64 0, .int .i64 0, .string ⟨#[]⟩, .string ⟨#[]⟩, .slice none 0 0, .int .u64 0, .int .u64 0, .string ⟨#[]⟩, .slice none 0 0] := Blk.new _ _ _
        have st := store_rec (cs := cs) kz rfl (rec_size hi) (rec_one hi)
        have KB := Blk_setRow kz cs
        have BA : Below wr.heap.size wr ((wr.alloc (.cells #[.int .i64 0, .int .i64 0, .int .i64 0, .int .i64 0, .int .i64 0, .string ⟨#[]⟩, .string ⟨#[]⟩, .slice none 0 0, .int .u64 0, .int .u64 0, .string ⟨#[]⟩, .slice none 0 0] 27)).setRow wr.heap.size cs) := ((Below.refl _ wr).alloc (Nat.le_refl _) _).trans ((frm_setRow _ _ _).below (by simp) (fun i hi e => by omega))
        obtain ⟨W1, hW1⟩ : ∃ W1, W1 = ((wr.alloc (.cells #[.int .i64 0, .int .i64 0, .int .i64 0, .int .i64 0, .int .i64 0, .string ⟨#[]⟩, .string ⟨#[]⟩, .slice none 0 0, .int .u64 0, .int .u64 0, .string ⟨#[]⟩, .slice none 0 0] 27)).setRow wr.heap.size cs) := ⟨_, rfl⟩
        rw [← hW1] at st KB BA
        have HB1 : Hid (Below w.heap.size w W1) := Lib.hid (HB.out.trans (BA.mono HB.out.size))
        have q5 := KB.cell 5
        have q6 := KB.cell 6
        have q7 := KB.cell 7
        have q10 := KB.cell 10
        have q11 := KB.cell 11
        have hlti : (k : Int) < (n : Int) := by omega
        have h0i : (0 : Int) ≤ (k : Int) := by omega
        have HNo : Hid (smallB rs[k] = false → fewB rs = false) := fun h => few_no_at kl h
        have HYe : Hid (smallB rs[k] = true → (rs.take (k + 1)).all smallB = true) := fun h => small_step kl HA.out h
        have HSm : Hid (smallB rs[k] = decide (rs[k].name.size ≤ 3000 ∧ rs[k].text.size ≤ 3000 ∧ rs[k].nums.length ≤ 3000 ∧ rs[k].ticket.size ≤ 3000 ∧ rs[k].amts.length ≤ 3000)) := rfl
        obtain ⟨A7, c7, A11, c11, hcs, _⟩ := hi
        clear hc hW1 kz KB BA
        generalize rs[k] = x at *
        obtain ⟨k0, k1, k2, k3, k4, xn, xt, xl, kk, ko, xi, xa⟩ := x
        rw [hcs] at q5 q6 q7 q10 q11
        clear hcs
        change W1.cell? _ = some (.string xn) at q5
        change W1.cell? _ = some (.string xt) at q6
        change W1.cell? _ = some (.slice A7 xl.length c7) at q7
        change W1.cell? _ = some (.string xi) at q10
        change W1.cell? _ = some (.slice A11 xa.length c11) at q11
        change Hid (_ = decide (xn.size ≤ 3000 ∧ xt.size ≤ 3000 ∧ xl.length ≤ 3000 ∧ xi.size ≤ 3000 ∧ xa.length ≤ 3000)) at HSm
        generalize smallB _ = q at *
        generalize xl.length = ll at *
        generalize xa.length = la at *
        by_cases h0 : xn.size ≤ 3000
        · have i0 : ((xn.size : Nat) : Int) ≤ 3000 := by omega
          have u0 : decide (((3000 : Nat) : Int) < ((xn.size : Nat) : Int)) = false := by simp; omega
          by_cases h1 : xt.size ≤ 3000
          · have i1 : ((xt.size : Nat) : Int) ≤ 3000 := by omega
            have u1 : decide (((3000 : Nat) : Int) < ((xt.size : Nat) : Int)) = false := by simp; omega
            by_cases h2 : ll ≤ 3000
            · have i2 : ((ll : Nat) : Int) ≤ 3000 := by omega
              have u2 : decide (((3000 : Nat) : Int) < ((ll : Nat) : Int)) = false := by simp; omega
              by_cases h3 : xi.size ≤ 3000
              · have i3 : ((xi.size : Nat) : Int) ≤ 3000 := by omega
                have u3 : decide (((3000 : Nat) : Int) < ((xi.size : Nat) : Int)) = false := by simp; omega
                by_cases h4 : la ≤ 3000
                · have i4 : ((la : Nat) : Int) ≤ 3000 := by omega
                  have u4 : decide (((3000 : Nat) : Int) < ((la : Nat) : Int)) = false := by simp; omega
                  have HE : Hid ((rs.take (k + 1)).all smallB = true) := HYe.out (by rw [HSm.out]; simp; omega)
                  clear HNo HYe HSm
                  go_wp2_with fail
                  go_roundw
                  case rel => exact ⟨k + 1, by omega, by go_num, HE, HB1⟩
                  case measure => simp [intOf]; omega
                · have i4 : (3000 : Int) < ((la : Nat) : Int) := by omega
                  have HE : Hid (fewB rs = false) := HNo.out (by rw [HSm.out]; simp; omega)
                  clear HNo HYe HSm
                  go_wp2_with fail
                  go_ret
                  exact ⟨by rw [HE.out]; rfl, HB1.out⟩
              · have i3 : (3000 : Int) < ((xi.size : Nat) : Int) := by omega
                have HE : Hid (fewB rs = false) := HNo.out (by rw [HSm.out]; simp; omega)
                clear HNo HYe HSm
                go_wp2_with fail
                go_ret
                exact ⟨by rw [HE.out]; rfl, HB1.out⟩
            · have i2 : (3000 : Int) < ((ll : Nat) : Int) := by omega
              have HE : Hid (fewB rs = false) := HNo.out (by rw [HSm.out]; simp; omega)
              clear HNo HYe HSm
              go_wp2_with fail
              go_ret
              exact ⟨by rw [HE.out]; rfl, HB1.out⟩
          · have i1 : (3000 : Int) < ((xt.size : Nat) : Int) := by omega
            have HE : Hid (fewB rs = false) := HNo.out (by rw [HSm.out]; simp; omega)
            clear HNo HYe HSm
            go_wp2_with fail
            go_ret
            exact ⟨by rw [HE.out]; rfl, HB1.out⟩
        · have i0 : (3000 : Int) < ((xn.size : Nat) : Int) := by omega
          have HE : Hid (fewB rs = false) := HNo.out (by rw [HSm.out]; simp; omega)
          clear HNo HYe HSm
          go_wp2_with fail
          go_ret
          exact ⟨by rw [HE.out]; rfl, HB1.out⟩
      · obtain rfl : k = n := by omega
        have HE : Hid (fewB rs = true) := few_yes_of (by have := LN.out; omega) (by have := HA.out; rwa [List.take_of_length_le (by have := LN.out; omega)] at this)
        go_wp2_with fail
        go_ret
        exact ⟨by rw [HE.out]; rfl, HB.out⟩
  · have h60i : (60 : Int) < (n : Int) := by omega
    have HE : Hid (fewB rs = false) := few_no_len (by have := LN.out; omega)
    go_enter Try.func11, Try.ntmps11
    go_wp2_with fail
    go_ret
    exact ⟨by rw [HE.out]; rfl, Below.refl _ _⟩
end Go.Proofs.Ythpmngdpgniehaa.Jr
