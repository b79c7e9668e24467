/-
  What the row's list gives: the table hexDigits holds its sixteen digits; and a start that fits. No conditions.
-/
import Derived.Test.YtkgpdfabkfbdpaaDoorRows
import Derived.Test.YtkgpdfabkfbdpaaDoorDgLaws2
import Derived.ProofKit
import Derived.OpenShut
import Derived.ShutString
import Derived.Deep.DeepHandedRow
import Derived.Lib.LaidTab
namespace Go.Proofs.YtkgpdfabkfbdpaaDoor.Dg
open Go.ChangeShapes Go.WideShapes Go.ChangeAt Go.RowKit

theorem own : ownKnob Tryd.prog.godebug = none := by kernel_rfl
/-- the table's name, as the row lists it. -/
abbrev tabName : String := Rows.digestSumsRow.named.headD Rows.digestSumsRow.spec
theorem gTab : Tryd.prog.globalNamed tabName = some 0 := by kernel_rfl
theorem gTabType : (Tryd.prog.globals[0]?).map (·.type) = some 40 := by kernel_rfl
theorem cellsTab : Tryd.prog.cellsOf 40 = 16 := by kernel_rfl
theorem cellsByte : Tryd.prog.cellsOf 5 = 1 := by kernel_rfl
theorem tab_of {W : World} (h : laidMetH Tryd.prog [(tabName, Rows.laid_lottery_digest_hexDigits)] W) : Tab W := by
  have hT : Lib.TabIs Tryd.prog W tabName .u8 [48, 49, 50, 51, 52, 53, 54, 55, 56, 57, 97, 98, 99, 100, 101, 102] :=
    Lib.tabIs_of_head (rest := []) gTab gTabType Tryd.underlying40 Tryd.underlying5 cellsByte cellsTab h
  have hc : ∀ i, i < 16 → W.cell? ⟨0, i, none⟩ = some (.int .u8 ((dig i).toNat : Int)) := by
    intro i hi
    have h1 := hT.cell gTab i hi
    have h2 : ∀ i : Fin 16, ([48, 49, 50, 51, 52, 53, 54, 55, 56, 57, 97, 98, 99, 100, 101, 102] : List Int).getD i.val 0 = ((dig i.val).toNat : Int) := by decide +kernel
    rw [h1, h2 ⟨i, hi⟩]
  exact ⟨Nat.lt_of_le_of_lt (Nat.zero_le _) (World.block_lt_of_cell? W _ (hc 0 (by decide))), hc⟩
/-- a start that fits: the settled world, the table holding what its initialiser lays. -/
noncomputable def laidWorld (os : Os) : World :=
  { World.holding Tryd.prog os ⟨#[], #[], []⟩ with heap := (World.holding Tryd.prog os ⟨#[], #[], []⟩).heap.modify 0 fun
      | .cells _ t frozen => .cells #[.int .u8 48, .int .u8 49, .int .u8 50, .int .u8 51, .int .u8 52, .int .u8 53, .int .u8 54, .int .u8 55, .int .u8 56, .int .u8 57, .int .u8 97, .int .u8 98, .int .u8 99, .int .u8 100, .int .u8 101, .int .u8 102] t frozen
      | o => o }
theorem u64_of_wf {n : Int} (h : (Lit.int .u64 n).wf = true) : U64 n := by
  have := bounds_u64 h
  unfold U64
  omega
theorem byte_of_wf {n : Int} (h : (Lit.int .u8 n).wf = true) : ∃ c : UInt8, n = (c.toNat : Int) := by
  have := bounds_u8 h
  refine ⟨UInt8.ofNat n.toNat, ?_⟩
  simp
  omega
theorem nat_of_wf {n : Int} (h : (Lit.int .u64 n).wf = true) : ∃ m : Nat, n = (m : Int) ∧ m < 18446744073709551616 := by
  have := bounds_u64 h
  exact ⟨n.toNat, by omega, by omega⟩
end Go.Proofs.YtkgpdfabkfbdpaaDoor.Dg
