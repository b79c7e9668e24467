/-
  The walk of few of package lotterylaw54: what it returns, and that it changes nothing. Conditions: the records lie in memory.
-/
import Derived.Test.YtlfcbfaoecdmoaaJrLoc
namespace Go.Proofs.Ytlfcbfaoecdmoaa.Rc
open Go.RowKit Go.Proofs.Ytlfcbfaoecdmoaa.Mem Go.Proofs.Ytlfcbfaoecdmoaa.Eqs Go.Proofs.Ytlfcbfaoecdmoaa.Jr

def smallB (r : Rec) : Bool := decide (r.ticket.size ≤ 100 ∧ r.amts.length ≤ 100 ∧ r.name.size ≤ 100 ∧ r.text.size ≤ 1000 ∧ r.nums.length ≤ 100)
def fewB (rs : List Rec) : Bool := decide (rs.length ≤ 30) && rs.all smallB
theorem few_yes_of {rs : List Rec} (h : rs.length ≤ 30) (ha : rs.all smallB = true) : fewB rs = true := by unfold fewB; simp [h]; simpa using ha
theorem few_no_len {rs : List Rec} (h : ¬ rs.length ≤ 30) : fewB rs = false := by unfold fewB; simp [h]
theorem few_no_at {rs : List Rec} {k : Nat} (hk : k < rs.length) (h : smallB rs[k] = false) : fewB rs = false := by
  unfold fewB
  have : rs.all smallB = false := by
    rw [List.all_eq_false]
    exact ⟨rs[k], List.getElem_mem hk, by rw [h]; simp⟩
  rw [this, Bool.and_false]
theorem small_step {rs : List Rec} {k : Nat} (hk : k < rs.length) (h : (rs.take k).all smallB = true) (h2 : smallB rs[k] = true) : (rs.take (k + 1)).all smallB = true := by
  rw [List.take_succ_eq_append_getElem hk, List.all_append, h]
  simp [h2]
set_option maxRecDepth 100000 in
set_option maxHeartbeats 4000000 in
theorem few_val (rs : List Rec) (A : Option Addr) (n c : Nat) (w : World) (hn : rs.length = n) (h : RecSl w A rs) :
    Calls Try.prog 19 #[.slice A n c] w fun e w' => e = .returned (.bool (fewB rs)) ∧ w = w' := by
  have LN := Lib.hid hn
  have H := Lib.hid h
  clear h hn
  by_cases h30 : n ≤ 30
  · have h30i : (n : Int) ≤ 30 := by omega
    go_enter Try.func19, Try.ntmps19
    go_wp2_with fail
    go_loop [3] (fun i => ∃ k : Nat, k ≤ n ∧ i = .int .i64 k ∧ Hid ((rs.take k).all smallB = true)) (fun i => n - (intOf i).toNat)
    case atStart => exact ⟨0, by omega, rfl, rfl⟩
    case round =>
      obtain ⟨k, hk, rfl, HA⟩ := hrel
      by_cases hlt : k < n
      · have kl : k < rs.length := by have := LN.out; omega
        obtain ⟨b, off, cs, rfl, _, ⟨A7, c7, A11, c11, rfl, _, _, _, _⟩, hc⟩ := H.out k _ (List.getElem?_eq_getElem kl)
        have q5 := hc 5 _ rfl
        have q6 := hc 6 _ rfl
        have q7 := hc 7 _ rfl
        have q10 := hc 10 _ rfl
        have q11 := hc 11 _ rfl
        have hlti : (k : Int) < (n : Int) := by omega
        have h0i : (0 : Int) ≤ (k : Int) := by omega
        have HNo : Hid (smallB rs[k] = false → fewB rs = false) := fun h => few_no_at kl h
        have HYe : Hid (smallB rs[k] = true → (rs.take (k + 1)).all smallB = true) := fun h => small_step kl HA.out h
        have HSm : Hid (smallB rs[k] = decide (rs[k].ticket.size ≤ 100 ∧ rs[k].amts.length ≤ 100 ∧ rs[k].name.size ≤ 100 ∧ rs[k].text.size ≤ 1000 ∧ rs[k].nums.length ≤ 100)) := rfl
        clear hc
        generalize rs[k] = x at *
        obtain ⟨k0, k1, k2, k3, k4, xn, xt, xl, kk, ko, xi, xa⟩ := x
        change w.cell? _ = some (.string xn) at q5
        change w.cell? _ = some (.string xt) at q6
        change w.cell? _ = some (.slice A7 xl.length c7) at q7
        change w.cell? _ = some (.string xi) at q10
        change w.cell? _ = some (.slice A11 xa.length c11) at q11
        change Hid (_ = decide (xi.size ≤ 100 ∧ xa.length ≤ 100 ∧ xn.size ≤ 100 ∧ xt.size ≤ 1000 ∧ xl.length ≤ 100)) at HSm
        generalize smallB _ = q at *
        generalize xl.length = ll at *
        generalize xa.length = la at *
        by_cases h0 : xi.size ≤ 100
        · have i0 : ((xi.size : Nat) : Int) ≤ 100 := by omega
          by_cases h1 : la ≤ 100
          · have i1 : ((la : Nat) : Int) ≤ 100 := by omega
            by_cases h2 : xn.size ≤ 100
            · have i2 : ((xn.size : Nat) : Int) ≤ 100 := by omega
              by_cases h3 : xt.size ≤ 1000
              · have i3 : ((xt.size : Nat) : Int) ≤ 1000 := by omega
                by_cases h4 : ll ≤ 100
                · have i4 : ((ll : Nat) : Int) ≤ 100 := by omega
                  have HE : Hid ((rs.take (k + 1)).all smallB = true) := HYe.out (by rw [HSm.out]; simp; omega)
                  clear HNo HYe HSm
                  go_wp2_with fail
                  go_round
                  case rel => exact ⟨k + 1, by omega, by go_num, HE⟩
                  case measure => simp [intOf]; omega
                · have i4 : (100 : Int) < ((ll : Nat) : Int) := by omega
                  have HE : Hid (fewB rs = false) := HNo.out (by rw [HSm.out]; simp; omega)
                  clear HNo HYe HSm
                  go_wp2_with fail
                  go_ret
                  exact ⟨by rw [HE.out]; rfl, rfl⟩
              · have i3 : (1000 : Int) < ((xt.size : Nat) : Int) := by omega
                have HE : Hid (fewB rs = false) := HNo.out (by rw [HSm.out]; simp; omega)
                clear HNo HYe HSm
                go_wp2_with fail
                go_ret
                exact ⟨by rw [HE.out]; rfl, rfl⟩
            · have i2 : (100 : Int) < ((xn.size : Nat) : Int) := by omega
              have HE : Hid (fewB rs = false) := HNo.out (by rw [HSm.out]; simp; omega)
              clear HNo HYe HSm
              go_wp2_with fail
              go_ret
              exact ⟨by rw [HE.out]; rfl, rfl⟩
          · have i1 : (100 : Int) < ((la : Nat) : Int) := by omega
            have HE : Hid (fewB rs = false) := HNo.out (by rw [HSm.out]; simp; omega)
            clear HNo HYe HSm
            go_wp2_with fail
            go_ret
            exact ⟨by rw [HE.out]; rfl, rfl⟩
        · have i0 : (100 : Int) < ((xi.size : Nat) : Int) := by omega
          have HE : Hid (fewB rs = false) := HNo.out (by rw [HSm.out]; simp; omega)
          clear HNo HYe HSm
          go_wp2_with fail
          go_ret
          exact ⟨by rw [HE.out]; rfl, rfl⟩
      · obtain rfl : k = n := by omega
        have HE : Hid (fewB rs = true) := few_yes_of (by have := LN.out; omega) (by have := HA.out; rwa [List.take_of_length_le (by have := LN.out; omega)] at this)
        go_wp2_with fail
        go_ret
        exact ⟨by rw [HE.out]; rfl, rfl⟩
  · have h30i : (30 : Int) < (n : Int) := by omega
    have HE : Hid (fewB rs = false) := few_no_len (by have := LN.out; omega)
    go_enter Try.func19, Try.ntmps19
    go_wp2_with fail
    go_ret
    exact ⟨by rw [HE.out]; rfl, rfl⟩
end Go.Proofs.Ytlfcbfaoecdmoaa.Rc
