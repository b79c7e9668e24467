/-
  The walk of ReconcileLocates: it returns true, and changes nothing that was there. Conditions: the lists of records lie in memory.
-/
import Derived.Test.YtlfcbfaoecdmoaaRcAwake
import Derived.Test.YtlfcbfaoecdmoaaRcFew
import Derived.Test.YtlfcbfaoecdmoaaRcLocR
namespace Go.Proofs.Ytlfcbfaoecdmoaa.Rc
open Go.RowKit Go.Proofs.Ytlfcbfaoecdmoaa.Mem Go.Proofs.Ytlfcbfaoecdmoaa.Eqs Go.Proofs.Ytlfcbfaoecdmoaa.Jr

set_option maxRecDepth 100000 in
set_option maxHeartbeats 2000000 in
theorem locates_walk (rs ss : List Rec) (A B : Option Addr) (n m ca cb : Nat) (w : World) (hn : rs.length = n) (hm : ss.length = m) (ha : RecSl w A rs) (hb : RecSl w B ss) (h1 : n ≤ 9223372036854775807) (h2 : m ≤ 9223372036854775807) :
    Calls Try.prog 7 #[.slice A n ca, .slice B m cb] w fun e w' => e = .returned (.bool true) ∧ Below w.heap.size w w' := by
  have HN := Lib.hid hn
  have HM := Lib.hid hm
  have HA := Lib.hid ha
  have HB := Lib.hid hb
  clear hn hm ha hb
  go_enter Try.func7, Try.ntmps7
  go_wp2_with fail
  refine (few_any rs A n ca _ HN.out HA.out).mono ?_
  rintro e w' ⟨⟨q, rfl⟩, rfl⟩
  cases q with
  | false =>
    go_wp2_with fail
    refine (awake_any _).mono ?_
    rintro e w1 ⟨rfl, b1⟩
    have B1 := Lib.hid b1
    clear b1
    go_wp2_with fail
    go_ret
    exact ⟨rfl, B1.out⟩
  | true =>
    go_wp2_with fail
    refine (few_any ss B m cb _ HM.out HB.out).mono ?_
    rintro e w' ⟨⟨q, rfl⟩, rfl⟩
    cases q with
    | false =>
      go_wp2_with fail
      refine (awake_any _).mono ?_
      rintro e w1 ⟨rfl, b1⟩
      have B1 := Lib.hid b1
      clear b1
      go_wp2_with fail
      go_ret
      exact ⟨rfl, B1.out⟩
    | true =>
      go_wp2_with fail
      refine (locate_any rs ss A B n m ca cb _ HN.out HM.out HA.out HB.out h1 h2).mono ?_
      rintro e w1 ⟨rfl, b1⟩
      have B1 := Lib.hid b1
      clear b1
      go_wp2_with fail
      refine (locateR_any rs ss A B n m ca cb _ HN.out HM.out (HA.out.below B1.out (Nat.le_refl _)) (HB.out.below B1.out (Nat.le_refl _)) h1 h2).mono ?_
      rintro e w2 ⟨rfl, b2⟩
      have B2 := Lib.hid (B1.out.trans (b2.mono B1.out.size))
      clear b2
      generalize loc rs ss = f at *
      go_wp2_with fail
      refine (awake_any _).mono ?_
      rintro e w3 ⟨rfl, b3⟩
      have B3 := Lib.hid (B2.out.trans (b3.mono B2.out.size))
      clear b3
      go_wp2_with fail
      go_ret
      exact ⟨rfl, B3.out⟩
end Go.Proofs.Ytlfcbfaoecdmoaa.Rc
