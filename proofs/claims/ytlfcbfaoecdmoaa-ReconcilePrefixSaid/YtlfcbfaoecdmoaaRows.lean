/-
  No cell of these rows narrows 'for every input' (looked for: loops, veiled, ifaces, maps, wideKeys, modest, calm, conditions, laid).
  DERIVED. THE GIVEN ROWS OF THIS SEAT. 6 by the template 'for every input the law returns true; each argument reads behind the call as it read before'; 0 by the template 'total and deterministic' (their statements: YtlfcbfaoecdmoaaTotals.lean).
  GIVEN WITH THE SEED: the statements are not yours to turn. If you find one false, say at which input.
  Laid BY PROGRAM, IN A SANDBOX (cutbox-rows.mjs): the forced cells as the released guide's own fill.sh prints them over the translation 1ce983956d0330f3… (all of the seat's roots in one cut). By AI agents, Wed Nov 11 2026. No macro, syntax, notation, axiom, sorry.
-/
import Derived.Test.YtlfcbfaoecdmoaaChecked
import GoSem.Claim
import GoSem.ClaimJoined
import GoSem.ClaimMapViews
import Derived.JoinedTies
import Derived.KernelRfl
namespace Go.Proofs.Ytlfcbfaoecdmoaa
/- THE CELL 'sum', in the pinned program and in every row, IS THE sha256 OF THE DUMP (.gsa) THAT YtlfcbfaoecdmoaaProg.lean LOADS. Nothing in Lean hashes anything: it is a label: what it is worth is what the hold of that sum in a sandbox is worth. -/
noncomputable def Try.pinned : Pinned := { name := "ytlfcbfaoecdmoaa", sum := "1ce983956d0330f3f09bedfa542e0ef9d0a0ee4d7ebf16814e10ae08b2e3912c", checked := Try.checked }
namespace Rows
def none {H : Type} : Left H := { results := [], args := [] }

/-- 'lotterylaw54.ReconcileFields': WHATEVER THE INPUT: true; the input reads as it did. -/
def reconcileFieldsSpec : ChangeSpec := { name := "reconcileFields", fn := fun _ => fun
  | [d] => { results := [.lit (.bool true)], args := [d] }
  | _ => none }
def reconcileFieldsRow : OpenClaim := { program := "ytlfcbfaoecdmoaa", sum := "1ce983956d0330f3f09bedfa542e0ef9d0a0ee4d7ebf16814e10ae08b2e3912c", func := "lottery/lotterylaw54.ReconcileFields", spec := "reconcileFields", unfollowed := true, recurses := true, apart := false }
def ReconcileFieldsSaid : Prop := reconcileFieldsRow.holds Try.pinned (OpenSpec.ofChange reconcileFieldsSpec)

/-- ITS FALSE NEIGHBOUR: 'it returns false'. Refute it at one input. -/
def reconcileFieldsWrong : ChangeSpec := { name := "reconcileFields", fn := fun _ => fun
  | [d] => { results := [.lit (.bool false)], args := [d] }
  | _ => none }
def ReconcileFieldsWrongFalsely : Prop := reconcileFieldsRow.holds Try.pinned (OpenSpec.ofChange reconcileFieldsWrong)

/-- 'lotterylaw54.ReconcileCompares': WHATEVER THE INPUT: true; the input reads as it did. -/
def reconcileComparesSpec : ChangeSpec := { name := "reconcileCompares", fn := fun _ => fun
  | [d1, d2] => { results := [.lit (.bool true)], args := [d1, d2] }
  | _ => none }
def reconcileComparesRow : OpenClaim := { program := "ytlfcbfaoecdmoaa", sum := "1ce983956d0330f3f09bedfa542e0ef9d0a0ee4d7ebf16814e10ae08b2e3912c", func := "lottery/lotterylaw54.ReconcileCompares", spec := "reconcileCompares", unfollowed := true, recurses := true, apart := false }
def ReconcileComparesSaid : Prop := reconcileComparesRow.holds Try.pinned (OpenSpec.ofChange reconcileComparesSpec)

/-- ITS FALSE NEIGHBOUR: 'it returns false'. Refute it at one input. -/
def reconcileComparesWrong : ChangeSpec := { name := "reconcileCompares", fn := fun _ => fun
  | [d1, d2] => { results := [.lit (.bool false)], args := [d1, d2] }
  | _ => none }
def ReconcileComparesWrongFalsely : Prop := reconcileComparesRow.holds Try.pinned (OpenSpec.ofChange reconcileComparesWrong)

/-- 'lotterylaw54.ReconcileAgrees': WHATEVER THE INPUT: true; the input reads as it did. -/
def reconcileAgreesSpec : ChangeSpec := { name := "reconcileAgrees", fn := fun _ => fun
  | [d1, d2] => { results := [.lit (.bool true)], args := [d1, d2] }
  | _ => none }
def reconcileAgreesRow : OpenClaim := { program := "ytlfcbfaoecdmoaa", sum := "1ce983956d0330f3f09bedfa542e0ef9d0a0ee4d7ebf16814e10ae08b2e3912c", func := "lottery/lotterylaw54.ReconcileAgrees", spec := "reconcileAgrees", unfollowed := true, recurses := true, apart := false }
def ReconcileAgreesSaid : Prop := reconcileAgreesRow.holds Try.pinned (OpenSpec.ofChange reconcileAgreesSpec)

/-- ITS FALSE NEIGHBOUR: 'it returns false'. Refute it at one input. -/
def reconcileAgreesWrong : ChangeSpec := { name := "reconcileAgrees", fn := fun _ => fun
  | [d1, d2] => { results := [.lit (.bool false)], args := [d1, d2] }
  | _ => none }
def ReconcileAgreesWrongFalsely : Prop := reconcileAgreesRow.holds Try.pinned (OpenSpec.ofChange reconcileAgreesWrong)

/-- 'lotterylaw54.ReconcileNames': WHATEVER THE INPUT: true; the input reads as it did. -/
def reconcileNamesSpec : ChangeSpec := { name := "reconcileNames", fn := fun _ => fun
  | [d1, d2, d3] => { results := [.lit (.bool true)], args := [d1, d2, d3] }
  | _ => none }
def reconcileNamesRow : OpenClaim := { program := "ytlfcbfaoecdmoaa", sum := "1ce983956d0330f3f09bedfa542e0ef9d0a0ee4d7ebf16814e10ae08b2e3912c", func := "lottery/lotterylaw54.ReconcileNames", spec := "reconcileNames", unfollowed := true, recurses := true, apart := false }
def ReconcileNamesSaid : Prop := reconcileNamesRow.holds Try.pinned (OpenSpec.ofChange reconcileNamesSpec)

/-- ITS FALSE NEIGHBOUR: 'it returns false'. Refute it at one input. -/
def reconcileNamesWrong : ChangeSpec := { name := "reconcileNames", fn := fun _ => fun
  | [d1, d2, d3] => { results := [.lit (.bool false)], args := [d1, d2, d3] }
  | _ => none }
def ReconcileNamesWrongFalsely : Prop := reconcileNamesRow.holds Try.pinned (OpenSpec.ofChange reconcileNamesWrong)

/-- 'lotterylaw54.ReconcileLocates': WHATEVER THE INPUT: true; the input reads as it did. -/
def reconcileLocatesSpec : ChangeSpec := { name := "reconcileLocates", fn := fun _ => fun
  | [d1, d2] => { results := [.lit (.bool true)], args := [d1, d2] }
  | _ => none }
def reconcileLocatesRow : OpenClaim := { program := "ytlfcbfaoecdmoaa", sum := "1ce983956d0330f3f09bedfa542e0ef9d0a0ee4d7ebf16814e10ae08b2e3912c", func := "lottery/lotterylaw54.ReconcileLocates", spec := "reconcileLocates", unfollowed := true, recurses := true, apart := false }
def ReconcileLocatesSaid : Prop := reconcileLocatesRow.holds Try.pinned (OpenSpec.ofChange reconcileLocatesSpec)

/-- ITS FALSE NEIGHBOUR: 'it returns false'. Refute it at one input. -/
def reconcileLocatesWrong : ChangeSpec := { name := "reconcileLocates", fn := fun _ => fun
  | [d1, d2] => { results := [.lit (.bool false)], args := [d1, d2] }
  | _ => none }
def ReconcileLocatesWrongFalsely : Prop := reconcileLocatesRow.holds Try.pinned (OpenSpec.ofChange reconcileLocatesWrong)

/-- 'lotterylaw54.ReconcilePrefix': WHATEVER THE INPUT: true; the input reads as it did. -/
def reconcilePrefixSpec : ChangeSpec := { name := "reconcilePrefix", fn := fun _ => fun
  | [d1, d2, d3] => { results := [.lit (.bool true)], args := [d1, d2, d3] }
  | _ => none }
def reconcilePrefixRow : OpenClaim := { program := "ytlfcbfaoecdmoaa", sum := "1ce983956d0330f3f09bedfa542e0ef9d0a0ee4d7ebf16814e10ae08b2e3912c", func := "lottery/lotterylaw54.ReconcilePrefix", spec := "reconcilePrefix", unfollowed := true, recurses := true, apart := false }
def ReconcilePrefixSaid : Prop := reconcilePrefixRow.holds Try.pinned (OpenSpec.ofChange reconcilePrefixSpec)

/-- ITS FALSE NEIGHBOUR: 'it returns false'. Refute it at one input. -/
def reconcilePrefixWrong : ChangeSpec := { name := "reconcilePrefix", fn := fun _ => fun
  | [d1, d2, d3] => { results := [.lit (.bool false)], args := [d1, d2, d3] }
  | _ => none }
def ReconcilePrefixWrongFalsely : Prop := reconcilePrefixRow.holds Try.pinned (OpenSpec.ofChange reconcilePrefixWrong)

/- THE SECOND FORM. 'bulk': how many values and letters a reading holds, each counted each time it is reached (what is shared counts as often as it is met; a slice's spare places count too). A statement '..UptoSaid' is the law's where the arguments, and the package variables that the reading takes, are together of bulk at most 1048576: NARROWER than '..Said'. Prove '..Said' where nothing that the law and all that it calls make is longer than what came in: it says more and counts as full. Else prove '..UptoSaid'. A law counts once. -/
mutual
def uptoBulk {H : Type} : DataW H → Nat
  | .lit (.string bytes) => bytes.length + 1
  | .lit _ => 1
  | .nil => 1
  | .ptr d => uptoBulk d + 1
  | .slice elems spare => uptoBulkAll elems + uptoBulkAll spare + 1
  | .agg parts => uptoBulkAll parts + 1
  | .iface _ d => uptoBulk d + 1
  | .map entries => uptoBulkEntries entries + 1
  | .held _ => 1
def uptoBulkAll {H : Type} : List (DataW H) → Nat
  | [] => 0
  | d :: r => uptoBulk d + uptoBulkAll r
def uptoBulkEntries {H : Type} : List (Lit × DataW H) → Nat
  | [] => 0
  | x :: r => uptoBulkEntry x + uptoBulkEntries r
def uptoBulkEntry {H : Type} : Lit × DataW H → Nat
  | (.string bytes, d) => bytes.length + uptoBulk d + 1
  | (_, d) => uptoBulk d + 1
 end
def uptoSmall : (H : Type) → List (DataW H) → Bool := fun _ ds => decide (uptoBulkAll ds ≤ 1048576)
def OpenSpec.upto (s : _root_.Go.ChangeSpec) : _root_.Go.OpenSpec := { _root_.Go.OpenSpec.ofChange s with cond := some uptoSmall }

/-- 'lotterylaw54.ReconcileFields', WHERE WHAT IT READS IS OF BULK AT MOST 1048576: true; the input reads as it did. -/
def reconcileFieldsUptoRow : OpenClaim := { program := "ytlfcbfaoecdmoaa", sum := "1ce983956d0330f3f09bedfa542e0ef9d0a0ee4d7ebf16814e10ae08b2e3912c", func := "lottery/lotterylaw54.ReconcileFields", spec := "reconcileFields", unfollowed := true, recurses := true, apart := false, narrowed := true }
def ReconcileFieldsUptoSaid : Prop := reconcileFieldsUptoRow.holds Try.pinned (OpenSpec.upto reconcileFieldsSpec)

/-- 'lotterylaw54.ReconcileCompares', WHERE WHAT IT READS IS OF BULK AT MOST 1048576: true; the input reads as it did. -/
def reconcileComparesUptoRow : OpenClaim := { program := "ytlfcbfaoecdmoaa", sum := "1ce983956d0330f3f09bedfa542e0ef9d0a0ee4d7ebf16814e10ae08b2e3912c", func := "lottery/lotterylaw54.ReconcileCompares", spec := "reconcileCompares", unfollowed := true, recurses := true, apart := false, narrowed := true }
def ReconcileComparesUptoSaid : Prop := reconcileComparesUptoRow.holds Try.pinned (OpenSpec.upto reconcileComparesSpec)

/-- 'lotterylaw54.ReconcileAgrees', WHERE WHAT IT READS IS OF BULK AT MOST 1048576: true; the input reads as it did. -/
def reconcileAgreesUptoRow : OpenClaim := { program := "ytlfcbfaoecdmoaa", sum := "1ce983956d0330f3f09bedfa542e0ef9d0a0ee4d7ebf16814e10ae08b2e3912c", func := "lottery/lotterylaw54.ReconcileAgrees", spec := "reconcileAgrees", unfollowed := true, recurses := true, apart := false, narrowed := true }
def ReconcileAgreesUptoSaid : Prop := reconcileAgreesUptoRow.holds Try.pinned (OpenSpec.upto reconcileAgreesSpec)

/-- 'lotterylaw54.ReconcileNames', WHERE WHAT IT READS IS OF BULK AT MOST 1048576: true; the input reads as it did. -/
def reconcileNamesUptoRow : OpenClaim := { program := "ytlfcbfaoecdmoaa", sum := "1ce983956d0330f3f09bedfa542e0ef9d0a0ee4d7ebf16814e10ae08b2e3912c", func := "lottery/lotterylaw54.ReconcileNames", spec := "reconcileNames", unfollowed := true, recurses := true, apart := false, narrowed := true }
def ReconcileNamesUptoSaid : Prop := reconcileNamesUptoRow.holds Try.pinned (OpenSpec.upto reconcileNamesSpec)

/-- 'lotterylaw54.ReconcileLocates', WHERE WHAT IT READS IS OF BULK AT MOST 1048576: true; the input reads as it did. -/
def reconcileLocatesUptoRow : OpenClaim := { program := "ytlfcbfaoecdmoaa", sum := "1ce983956d0330f3f09bedfa542e0ef9d0a0ee4d7ebf16814e10ae08b2e3912c", func := "lottery/lotterylaw54.ReconcileLocates", spec := "reconcileLocates", unfollowed := true, recurses := true, apart := false, narrowed := true }
def ReconcileLocatesUptoSaid : Prop := reconcileLocatesUptoRow.holds Try.pinned (OpenSpec.upto reconcileLocatesSpec)

/-- 'lotterylaw54.ReconcilePrefix', WHERE WHAT IT READS IS OF BULK AT MOST 1048576: true; the input reads as it did. -/
def reconcilePrefixUptoRow : OpenClaim := { program := "ytlfcbfaoecdmoaa", sum := "1ce983956d0330f3f09bedfa542e0ef9d0a0ee4d7ebf16814e10ae08b2e3912c", func := "lottery/lotterylaw54.ReconcilePrefix", spec := "reconcilePrefix", unfollowed := true, recurses := true, apart := false, narrowed := true }
def ReconcilePrefixUptoSaid : Prop := reconcilePrefixUptoRow.holds Try.pinned (OpenSpec.upto reconcilePrefixSpec)

end Rows
end Go.Proofs.Ytlfcbfaoecdmoaa
