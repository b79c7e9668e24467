/-
  The walks of the functions that compare two lists of numbers or of texts, element by element. Conditions: the lists lie in memory.
-/
import Derived.Test.YthpmngdpgniehaaProg
import Derived.Test.YthpmngdpgniehaaMem
import Derived.Deep.QuietTactic
import Derived.BigQuiet
namespace Go.Proofs.Ythpmngdpgniehaa.Eqs
open Go.RowKit Go.Proofs.Ythpmngdpgniehaa.Mem
theorem ret_bool {a b : Bool} (h : a = b) : Ending.returned (.bool a) = .returned (.bool b) := by rw [h]



set_option maxHeartbeats 1000000 in
theorem ints50 (xs ys : List Int) (n m : Nat) (A B : Option Addr) (ca cb : Nat) (w : World) (ha : Sl w 1 A n (ints xs)) (hb : Sl w 1 B m (ints ys)) (hn : n ≤ 9223372036854775807) :
    Calls Try.prog 39 #[.slice A n ca, .slice B m cb] w fun e w' => e = .returned (.bool (decide (xs = ys))) ∧ ∃ q, w' = w.drewN q := by
  have la : xs.length = n := by simpa [ints_len] using ha.1
  have lb : ys.length = m := by simpa [ints_len] using hb.1
  by_cases hnm : n = m
  · subst hnm
    have ht : ((n : Int) != (n : Int)) = false := by simp
    have LA := Lib.hid la
    have LB := Lib.hid lb
    clear la lb
    rcases Nat.eq_zero_or_pos n with h0 | h0
    · subst h0
      have HE : Hid (decide (xs = ys) = true) := by
        show _ = _
        rw [List.eq_nil_of_length_eq_zero LA.out, List.eq_nil_of_length_eq_zero LB.out]
        rfl
      clear ha hb
      go_enter Try.func39, Try.ntmps39
      go_wp2
      go_loopw [5] (fun i wr => i = .int .i64 0 ∧ ∃ q, wr = w.drewN q) (fun _ _ => 0)
      case atStart => exact ⟨rfl, 0, rfl⟩
      case round =>
        obtain ⟨rfl, q, rfl⟩ := hrel
        go_wp2
        go_ret
        exact ⟨ret_bool HE.out.symm, q, rfl⟩
    · obtain ⟨b1, o1, rfl, c1⟩ := ha.open_ h0
      obtain ⟨b2, o2, rfl, c2⟩ := hb.open_ h0
      have C1 := Lib.hid c1
      have C2 := Lib.hid c2
      clear c1 c2 ha hb
      go_enter Try.func39, Try.ntmps39
      go_wp2
      go_loopw [5] (fun i wr => ∃ k q : Nat, k ≤ n ∧ i = .int .i64 k ∧ wr = w.drewN q ∧ Hid (xs.take k = ys.take k)) (fun i _ => n - (intOf i).toNat)
      case atStart => exact ⟨0, 0, by omega, rfl, rfl, rfl⟩
      case round =>
        obtain ⟨k, q, hk, rfl, rfl, HP⟩ := hrel
        by_cases hlt : k < n
        · have ka : k < xs.length := by have := LA.out; omega
          have kb : k < ys.length := by have := LB.out; omega
          have hc1 := C1.out k _ (ints_at ka)
          have hc2 := C2.out k _ (ints_at kb)
          have hlti : (k : Int) < (n : Int) := by omega
          have h0i : (0 : Int) ≤ (k : Int) := by omega
          by_cases he : xs[k] = ys[k]
          · have hne : (xs[k] != ys[k]) = false := by simp [he]
            have HS : Hid (xs.take (k + 1) = ys.take (k + 1)) := by
              show _ = _
              rw [List.take_succ_eq_append_getElem ka, List.take_succ_eq_append_getElem kb, HP.out, he]
            clear he
            go_wp2
            go_quiet (fail)
            go_wp2
            go_roundw
            case rel => exact ⟨k + 1, _, by omega, by go_num, rfl, HS⟩
            case measure => simp [intOf]; omega
          · have hne : (xs[k] != ys[k]) = true := by simp; exact he
            have HE : Hid (decide (xs = ys) = false) := by
              show _ = _
              rw [decide_eq_false_iff_not]
              intro e
              subst e
              exact he rfl
            clear he
            go_wp2
            go_quiet (fail)
            go_wp2
            go_ret
            exact ⟨ret_bool HE.out.symm, _, by rw [World.drewN_drewN]⟩
        · obtain rfl : k = n := by omega
          have HE : Hid (decide (xs = ys) = true) := by
            have h1 := HP.out
            rw [List.take_of_length_le (by have := LA.out; omega), List.take_of_length_le (by have := LB.out; omega)] at h1
            show _ = _
            rw [h1]
            simp
          go_wp2
          go_ret
          exact ⟨ret_bool HE.out.symm, _, rfl⟩
  · have ht : ((n : Int) != (m : Int)) = true := by simp; omega
    have HE : Hid (decide (xs = ys) = false) := by
      show _ = _
      rw [decide_eq_false_iff_not]
      intro e
      subst e
      omega
    clear ha hb la lb hnm
    go_enter Try.func39, Try.ntmps39
    go_wp2
    go_ret
    exact ⟨ret_bool HE.out.symm, 0, rfl⟩


set_option maxHeartbeats 1000000 in
theorem slicesEq (xs ys : List Int) (n m : Nat) (A B : Option Addr) (ca cb : Nat) (w : World) (ha : Sl w 1 A n (ints xs)) (hb : Sl w 1 B m (ints ys)) (hn : n ≤ 9223372036854775807) :
    Calls Try.prog 54 #[.slice A n ca, .slice B m cb] w fun e w' => e = .returned (.bool (decide (xs = ys))) ∧ ∃ q, w' = w.drewN q := by
  have la : xs.length = n := by simpa [ints_len] using ha.1
  have lb : ys.length = m := by simpa [ints_len] using hb.1
  by_cases hnm : n = m
  · subst hnm
    have ht : ((n : Int) != (n : Int)) = false := by simp
    have LA := Lib.hid la
    have LB := Lib.hid lb
    clear la lb
    rcases Nat.eq_zero_or_pos n with h0 | h0
    · subst h0
      have HE : Hid (decide (xs = ys) = true) := by
        show _ = _
        rw [List.eq_nil_of_length_eq_zero LA.out, List.eq_nil_of_length_eq_zero LB.out]
        rfl
      clear ha hb
      go_enter Try.func54, Try.ntmps54
      go_wp2
      go_loopw [13] (fun i wr => i = .int .i64 0 ∧ ∃ q, wr = w.drewN q) (fun _ _ => 0)
      case atStart => exact ⟨rfl, 0, rfl⟩
      case round =>
        obtain ⟨rfl, q, rfl⟩ := hrel
        go_wp2
        go_ret
        exact ⟨ret_bool HE.out.symm, q, rfl⟩
    · obtain ⟨b1, o1, rfl, c1⟩ := ha.open_ h0
      obtain ⟨b2, o2, rfl, c2⟩ := hb.open_ h0
      have C1 := Lib.hid c1
      have C2 := Lib.hid c2
      clear c1 c2 ha hb
      go_enter Try.func54, Try.ntmps54
      go_wp2
      go_loopw [13] (fun i wr => ∃ k q : Nat, k ≤ n ∧ i = .int .i64 k ∧ wr = w.drewN q ∧ Hid (xs.take k = ys.take k)) (fun i _ => n - (intOf i).toNat)
      case atStart => exact ⟨0, 0, by omega, rfl, rfl, rfl⟩
      case round =>
        obtain ⟨k, q, hk, rfl, rfl, HP⟩ := hrel
        by_cases hlt : k < n
        · have ka : k < xs.length := by have := LA.out; omega
          have kb : k < ys.length := by have := LB.out; omega
          have hc1 := C1.out k _ (ints_at ka)
          have hc2 := C2.out k _ (ints_at kb)
          have hlti : (k : Int) < (n : Int) := by omega
          have h0i : (0 : Int) ≤ (k : Int) := by omega
          by_cases he : xs[k] = ys[k]
          · have hne : (xs[k] != ys[k]) = false := by simp [he]
            have HS : Hid (xs.take (k + 1) = ys.take (k + 1)) := by
              show _ = _
              rw [List.take_succ_eq_append_getElem ka, List.take_succ_eq_append_getElem kb, HP.out, he]
            clear he
            go_wp2
            go_quiet (fail)
            go_wp2
            go_roundw
            case rel => exact ⟨k + 1, _, by omega, by go_num, rfl, HS⟩
            case measure => simp [intOf]; omega
          · have hne : (xs[k] != ys[k]) = true := by simp; exact he
            have HE : Hid (decide (xs = ys) = false) := by
              show _ = _
              rw [decide_eq_false_iff_not]
              intro e
              subst e
              exact he rfl
            clear he
            go_wp2
            go_quiet (fail)
            go_wp2
            go_ret
            exact ⟨ret_bool HE.out.symm, _, by rw [World.drewN_drewN]⟩
        · obtain rfl : k = n := by omega
          have HE : Hid (decide (xs = ys) = true) := by
            have h1 := HP.out
            rw [List.take_of_length_le (by have := LA.out; omega), List.take_of_length_le (by have := LB.out; omega)] at h1
            show _ = _
            rw [h1]
            simp
          go_wp2
          go_ret
          exact ⟨ret_bool HE.out.symm, _, rfl⟩
  · have ht : ((n : Int) != (m : Int)) = true := by simp; omega
    have HE : Hid (decide (xs = ys) = false) := by
      show _ = _
      rw [decide_eq_false_iff_not]
      intro e
      subst e
      omega
    clear ha hb la lb hnm
    go_enter Try.func54, Try.ntmps54
    go_wp2
    go_ret
    exact ⟨ret_bool HE.out.symm, 0, rfl⟩
end Go.Proofs.Ythpmngdpgniehaa.Eqs
