/-
  The examples of chapter 7 hold ('awake'): the walk. Condition: the table hexDigits holds its sixteen digits.
-/
import Derived.Test.YtkgpdfabkfbdpaaDoorDgHex
import Derived.Test.YtkgpdfabkfbdpaaDoorDgUnmix
namespace Go.Proofs.YtkgpdfabkfbdpaaDoor.Dg
open Go.RowKit

theorem sum_empty (w : World) : Calls Tryd.prog 12 #[.string ⟨#[]⟩] w fun e w' => e = .returned (.int .u64 14695981039346656037) ∧ w = w' :=
  (sum_any ⟨#[]⟩ w (by decide)).mono fun e w' ⟨he, hw⟩ => ⟨he.trans (ret_int (by decide +kernel)), hw⟩
theorem sum_a (w : World) : Calls Tryd.prog 12 #[.string ⟨#[97]⟩] w fun e w' => e = .returned (.int .u64 12638187200555641996) ∧ w = w' :=
  (sum_any ⟨#[97]⟩ w (by decide)).mono fun e w' ⟨he, hw⟩ => ⟨he.trans (ret_int (by decide +kernel)), hw⟩
theorem mix_ex (w : World) : Calls Tryd.prog 14 #[.int .u64 11400714819323198485] w fun e w' => e = .returned (.int .u64 16294208416658607535) ∧ w = w' :=
  (mix_any 11400714819323198485 w (by unfold U64; decide)).mono fun e w' ⟨he, hw⟩ => ⟨he.trans (ret_int (by decide +kernel)), hw⟩
theorem unmix_ex (w : World) : Calls Tryd.prog 16 #[.int .u64 16294208416658607535] w fun e w' => e = .returned (.int .u64 11400714819323198485) ∧ w = w' :=
  (unmix_any 16294208416658607535 w (by unfold U64; decide)).mono fun e w' ⟨he, hw⟩ => ⟨he.trans (ret_int (by decide +kernel)), hw⟩
theorem hex_ex (w : World) (hT : Tab w) : Calls Tryd.prog 18 #[.int .u64 14695981039346656037] w fun e w' => e = .returned (.string ⟨#[99, 98, 102, 50, 57, 99, 101, 52, 56, 52, 50, 50, 50, 51, 50, 53]⟩) ∧ Below w.heap.size w w' :=
  (hex_any 14695981039346656037 w (by decide) hT).mono fun e w' ⟨he, hw⟩ => ⟨he.trans (congrArg (fun l : List UInt8 => Ending.returned (.string ⟨l.toArray⟩)) (by decide +kernel : hexL 16 14695981039346656037 = [99, 98, 102, 50, 57, 99, 101, 52, 56, 52, 50, 50, 50, 51, 50, 53])), hw⟩
theorem parse_good (w : World) : Calls Tryd.prog 19 #[.string ⟨#[48, 48, 48, 48, 48, 48, 48, 48, 48, 48, 48, 48, 48, 48, 102, 102]⟩] w fun e w' => e = .returned (.tuple #[.int .u64 255, .int .i64 0]) ∧ w = w' :=
  (parse_any _ w).mono fun e w' ⟨he, hw⟩ => ⟨he.trans (by rw [show parseX _ = 255 from by decide +kernel, show parseE _ = 0 from by decide +kernel]), hw⟩
theorem parse_ff (w : World) : Calls Tryd.prog 19 #[.string ⟨#[102, 102]⟩] w fun e w' => e = .returned (.tuple #[.int .u64 0, .int .i64 1]) ∧ w = w' :=
  (parse_any _ w).mono fun e w' ⟨he, hw⟩ => ⟨he.trans (by rw [show parseX _ = 0 from by decide +kernel, show parseE _ = 1 from by decide +kernel]), hw⟩
theorem parse_FF (w : World) : Calls Tryd.prog 19 #[.string ⟨#[48, 48, 48, 48, 48, 48, 48, 48, 48, 48, 48, 48, 48, 48, 70, 70]⟩] w fun e w' => e = .returned (.tuple #[.int .u64 0, .int .i64 1]) ∧ w = w' :=
  (parse_any _ w).mono fun e w' ⟨he, hw⟩ => ⟨he.trans (by rw [show parseX _ = 0 from by decide +kernel, show parseE _ = 1 from by decide +kernel]), hw⟩

set_option maxHeartbeats 400000 in
theorem awake_any (w : World) (hT : Tab w) :
    Calls Tryd.prog 11 #[] w fun e w' => e = .returned (.bool true) ∧ Below w.heap.size w w' := by
  have HT := Lib.hid hT
  clear hT
  go_enter Tryd.func11, Tryd.ntmps11
  go_wp2_with fail
  refine (parse_good _).mono ?_
  rintro e w' ⟨rfl, rfl⟩
  go_wp2_with fail
  refine (parse_ff _).mono ?_
  rintro e w' ⟨rfl, rfl⟩
  go_wp2_with fail
  refine (parse_FF _).mono ?_
  rintro e w' ⟨rfl, rfl⟩
  go_wp2_with fail
  refine (sum_empty _).mono ?_
  rintro e w' ⟨rfl, rfl⟩
  go_wp2_with fail
  refine (sum_empty _).mono ?_
  rintro e w' ⟨rfl, rfl⟩
  go_wp2_with fail
  refine (hex_ex _ HT.out).mono ?_
  rintro e w1 ⟨rfl, hb⟩
  go_wp2_with fail
  refine (sum_a _).mono ?_
  rintro e w' ⟨rfl, rfl⟩
  go_wp2_with fail
  refine (mix_ex _).mono ?_
  rintro e w' ⟨rfl, rfl⟩
  go_wp2_with fail
  refine (unmix_ex _).mono ?_
  rintro e w' ⟨rfl, rfl⟩
  go_wp2_with fail
  go_ret
  exact ⟨rfl, hb⟩
theorem Tab.below {w w' : World} (h : Tab w) (hb : Below w.heap.size w w') : Tab w' :=
  ⟨Nat.lt_of_lt_of_le h.1 hb.size, fun i hi => (hb.cell (p := ⟨0, i, none⟩) h.1).trans (h.2 i hi)⟩
end Go.Proofs.YtkgpdfabkfbdpaaDoor.Dg
