/-
  No cell of these rows narrows 'for every input' (looked for: loops, veiled, ifaces, maps, wideKeys, modest, calm, conditions, laid).
  DERIVED. THE GIVEN ROWS OF THIS SEAT. 6 by the template 'for every input the law returns true; each argument reads behind the call as it read before'; 0 by the template 'total and deterministic' (their statements: YtdgekhbmcmojdaaTotals.lean).
  GIVEN WITH THE SEED: the statements are not yours to turn. If you find one false, say at which input.
  Laid BY PROGRAM, IN A SANDBOX (cutbox-rows.mjs): the forced cells as the released guide's own fill.sh prints them over the translation 5957e36403c1983d… (all of the seat's roots in one cut). By AI agents, Wed Nov 11 2026. No macro, syntax, notation, axiom, sorry.
-/
import Derived.Test.YtdgekhbmcmojdaaChecked
import GoSem.Claim
import GoSem.ClaimJoined
import GoSem.ClaimMapViews
import Derived.JoinedTies
import Derived.KernelRfl
namespace Go.Proofs.Ytdgekhbmcmojdaa
/- THE CELL 'sum', in the pinned program and in every row, IS THE sha256 OF THE DUMP (.gsa) THAT YtdgekhbmcmojdaaProg.lean LOADS. Nothing in Lean hashes anything: it is a label: what it is worth is what the hold of that sum in a sandbox is worth. -/
noncomputable def Try.pinned : Pinned := { name := "ytdgekhbmcmojdaa", sum := "5957e36403c1983da5a43dff3f8cbab147523c549243bf3c195bc84150544937", checked := Try.checked }
namespace Rows
def none {H : Type} : Left H := { results := [], args := [] }

/-- 'lotterylaw27.CommitmentDigests': WHATEVER THE INPUT: true; the input reads as it did. -/
def commitmentDigestsSpec : ChangeSpec := { name := "commitmentDigests", fn := fun _ => fun
  | [d1, d2, d3] => { results := [.lit (.bool true)], args := [d1, d2, d3] }
  | _ => none }
def commitmentDigestsRow : OpenClaim := { program := "ytdgekhbmcmojdaa", sum := "5957e36403c1983da5a43dff3f8cbab147523c549243bf3c195bc84150544937", func := "lottery/lotterylaw27.CommitmentDigests", spec := "commitmentDigests", apart := false }
def CommitmentDigestsSaid : Prop := commitmentDigestsRow.holds Try.pinned (OpenSpec.ofChange commitmentDigestsSpec)

/-- ITS FALSE NEIGHBOUR: 'it returns false'. Refute it at one input. -/
def commitmentDigestsWrong : ChangeSpec := { name := "commitmentDigests", fn := fun _ => fun
  | [d1, d2, d3] => { results := [.lit (.bool false)], args := [d1, d2, d3] }
  | _ => none }
def CommitmentDigestsWrongFalsely : Prop := commitmentDigestsRow.holds Try.pinned (OpenSpec.ofChange commitmentDigestsWrong)

/-- 'lotterylaw27.CommitmentDoes': WHATEVER THE INPUT: true; the input reads as it did. -/
def commitmentDoesSpec : ChangeSpec := { name := "commitmentDoes", fn := fun _ => fun
  | [d1, d2, d3] => { results := [.lit (.bool true)], args := [d1, d2, d3] }
  | _ => none }
def commitmentDoesRow : OpenClaim := { program := "ytdgekhbmcmojdaa", sum := "5957e36403c1983da5a43dff3f8cbab147523c549243bf3c195bc84150544937", func := "lottery/lotterylaw27.CommitmentDoes", spec := "commitmentDoes", apart := false }
def CommitmentDoesSaid : Prop := commitmentDoesRow.holds Try.pinned (OpenSpec.ofChange commitmentDoesSpec)

/-- ITS FALSE NEIGHBOUR: 'it returns false'. Refute it at one input. -/
def commitmentDoesWrong : ChangeSpec := { name := "commitmentDoes", fn := fun _ => fun
  | [d1, d2, d3] => { results := [.lit (.bool false)], args := [d1, d2, d3] }
  | _ => none }
def CommitmentDoesWrongFalsely : Prop := commitmentDoesRow.holds Try.pinned (OpenSpec.ofChange commitmentDoesWrong)

/-- 'lotterylaw27.CommitmentBinds': WHATEVER THE INPUT: true; the input reads as it did. -/
def commitmentBindsSpec : ChangeSpec := { name := "commitmentBinds", fn := fun _ => fun
  | [d1, d2, d3, d4] => { results := [.lit (.bool true)], args := [d1, d2, d3, d4] }
  | _ => none }
def commitmentBindsRow : OpenClaim := { program := "ytdgekhbmcmojdaa", sum := "5957e36403c1983da5a43dff3f8cbab147523c549243bf3c195bc84150544937", func := "lottery/lotterylaw27.CommitmentBinds", spec := "commitmentBinds", apart := false }
def CommitmentBindsSaid : Prop := commitmentBindsRow.holds Try.pinned (OpenSpec.ofChange commitmentBindsSpec)

/-- ITS FALSE NEIGHBOUR: 'it returns false'. Refute it at one input. -/
def commitmentBindsWrong : ChangeSpec := { name := "commitmentBinds", fn := fun _ => fun
  | [d1, d2, d3, d4] => { results := [.lit (.bool false)], args := [d1, d2, d3, d4] }
  | _ => none }
def CommitmentBindsWrongFalsely : Prop := commitmentBindsRow.holds Try.pinned (OpenSpec.ofChange commitmentBindsWrong)

/-- 'lotterylaw27.CommitmentOrders': WHATEVER THE INPUT: true; the input reads as it did. -/
def commitmentOrdersSpec : ChangeSpec := { name := "commitmentOrders", fn := fun _ => fun
  | [d1, d2, d3] => { results := [.lit (.bool true)], args := [d1, d2, d3] }
  | _ => none }
def commitmentOrdersRow : OpenClaim := { program := "ytdgekhbmcmojdaa", sum := "5957e36403c1983da5a43dff3f8cbab147523c549243bf3c195bc84150544937", func := "lottery/lotterylaw27.CommitmentOrders", spec := "commitmentOrders", apart := false }
def CommitmentOrdersSaid : Prop := commitmentOrdersRow.holds Try.pinned (OpenSpec.ofChange commitmentOrdersSpec)

/-- ITS FALSE NEIGHBOUR: 'it returns false'. Refute it at one input. -/
def commitmentOrdersWrong : ChangeSpec := { name := "commitmentOrders", fn := fun _ => fun
  | [d1, d2, d3] => { results := [.lit (.bool false)], args := [d1, d2, d3] }
  | _ => none }
def CommitmentOrdersWrongFalsely : Prop := commitmentOrdersRow.holds Try.pinned (OpenSpec.ofChange commitmentOrdersWrong)

/-- 'lotterylaw27.CommitmentEach': WHATEVER THE INPUT: true; the input reads as it did. -/
def commitmentEachSpec : ChangeSpec := { name := "commitmentEach", fn := fun _ => fun
  | [d1, d2, d3] => { results := [.lit (.bool true)], args := [d1, d2, d3] }
  | _ => none }
def commitmentEachRow : OpenClaim := { program := "ytdgekhbmcmojdaa", sum := "5957e36403c1983da5a43dff3f8cbab147523c549243bf3c195bc84150544937", func := "lottery/lotterylaw27.CommitmentEach", spec := "commitmentEach", apart := false }
def CommitmentEachSaid : Prop := commitmentEachRow.holds Try.pinned (OpenSpec.ofChange commitmentEachSpec)

/-- ITS FALSE NEIGHBOUR: 'it returns false'. Refute it at one input. -/
def commitmentEachWrong : ChangeSpec := { name := "commitmentEach", fn := fun _ => fun
  | [d1, d2, d3] => { results := [.lit (.bool false)], args := [d1, d2, d3] }
  | _ => none }
def CommitmentEachWrongFalsely : Prop := commitmentEachRow.holds Try.pinned (OpenSpec.ofChange commitmentEachWrong)

/-- 'lotterylaw27.CommitmentNobody': WHATEVER THE INPUT: true; the input reads as it did. -/
def commitmentNobodySpec : ChangeSpec := { name := "commitmentNobody", fn := fun _ => fun
  | [d1, d2] => { results := [.lit (.bool true)], args := [d1, d2] }
  | _ => none }
def commitmentNobodyRow : OpenClaim := { program := "ytdgekhbmcmojdaa", sum := "5957e36403c1983da5a43dff3f8cbab147523c549243bf3c195bc84150544937", func := "lottery/lotterylaw27.CommitmentNobody", spec := "commitmentNobody", apart := false }
def CommitmentNobodySaid : Prop := commitmentNobodyRow.holds Try.pinned (OpenSpec.ofChange commitmentNobodySpec)

/-- ITS FALSE NEIGHBOUR: 'it returns false'. Refute it at one input. -/
def commitmentNobodyWrong : ChangeSpec := { name := "commitmentNobody", fn := fun _ => fun
  | [d1, d2] => { results := [.lit (.bool false)], args := [d1, d2] }
  | _ => none }
def CommitmentNobodyWrongFalsely : Prop := commitmentNobodyRow.holds Try.pinned (OpenSpec.ofChange commitmentNobodyWrong)

/- THE SECOND FORM. 'bulk': how many values and letters a reading holds, each counted each time it is reached (what is shared counts as often as it is met; a slice's spare places count too). A statement '..UptoSaid' is the law's where the arguments, and the package variables that the reading takes, are together of bulk at most 1048576: NARROWER than '..Said'. Prove '..Said' where nothing that the law and all that it calls make is longer than what came in: it says more and counts as full. Else prove '..UptoSaid'. A law counts once. -/
mutual
def uptoBulk {H : Type} : DataW H → Nat
  | .lit (.string bytes) => bytes.length + 1
  | .lit _ => 1
  | .nil => 1
  | .ptr d => uptoBulk d + 1
  | .slice elems spare => uptoBulkAll elems + uptoBulkAll spare + 1
  | .agg parts => uptoBulkAll parts + 1
  | .iface _ d => uptoBulk d + 1
  | .map entries => uptoBulkEntries entries + 1
  | .held _ => 1
def uptoBulkAll {H : Type} : List (DataW H) → Nat
  | [] => 0
  | d :: r => uptoBulk d + uptoBulkAll r
def uptoBulkEntries {H : Type} : List (Lit × DataW H) → Nat
  | [] => 0
  | x :: r => uptoBulkEntry x + uptoBulkEntries r
def uptoBulkEntry {H : Type} : Lit × DataW H → Nat
  | (.string bytes, d) => bytes.length + uptoBulk d + 1
  | (_, d) => uptoBulk d + 1
 end
def uptoSmall : (H : Type) → List (DataW H) → Bool := fun _ ds => decide (uptoBulkAll ds ≤ 1048576)
def OpenSpec.upto (s : _root_.Go.ChangeSpec) : _root_.Go.OpenSpec := { _root_.Go.OpenSpec.ofChange s with cond := some uptoSmall }

/-- 'lotterylaw27.CommitmentDigests', WHERE WHAT IT READS IS OF BULK AT MOST 1048576: true; the input reads as it did. -/
def commitmentDigestsUptoRow : OpenClaim := { program := "ytdgekhbmcmojdaa", sum := "5957e36403c1983da5a43dff3f8cbab147523c549243bf3c195bc84150544937", func := "lottery/lotterylaw27.CommitmentDigests", spec := "commitmentDigests", apart := false, narrowed := true }
def CommitmentDigestsUptoSaid : Prop := commitmentDigestsUptoRow.holds Try.pinned (OpenSpec.upto commitmentDigestsSpec)

/-- 'lotterylaw27.CommitmentDoes', WHERE WHAT IT READS IS OF BULK AT MOST 1048576: true; the input reads as it did. -/
def commitmentDoesUptoRow : OpenClaim := { program := "ytdgekhbmcmojdaa", sum := "5957e36403c1983da5a43dff3f8cbab147523c549243bf3c195bc84150544937", func := "lottery/lotterylaw27.CommitmentDoes", spec := "commitmentDoes", apart := false, narrowed := true }
def CommitmentDoesUptoSaid : Prop := commitmentDoesUptoRow.holds Try.pinned (OpenSpec.upto commitmentDoesSpec)

/-- 'lotterylaw27.CommitmentBinds', WHERE WHAT IT READS IS OF BULK AT MOST 1048576: true; the input reads as it did. -/
def commitmentBindsUptoRow : OpenClaim := { program := "ytdgekhbmcmojdaa", sum := "5957e36403c1983da5a43dff3f8cbab147523c549243bf3c195bc84150544937", func := "lottery/lotterylaw27.CommitmentBinds", spec := "commitmentBinds", apart := false, narrowed := true }
def CommitmentBindsUptoSaid : Prop := commitmentBindsUptoRow.holds Try.pinned (OpenSpec.upto commitmentBindsSpec)

/-- 'lotterylaw27.CommitmentOrders', WHERE WHAT IT READS IS OF BULK AT MOST 1048576: true; the input reads as it did. -/
def commitmentOrdersUptoRow : OpenClaim := { program := "ytdgekhbmcmojdaa", sum := "5957e36403c1983da5a43dff3f8cbab147523c549243bf3c195bc84150544937", func := "lottery/lotterylaw27.CommitmentOrders", spec := "commitmentOrders", apart := false, narrowed := true }
def CommitmentOrdersUptoSaid : Prop := commitmentOrdersUptoRow.holds Try.pinned (OpenSpec.upto commitmentOrdersSpec)

/-- 'lotterylaw27.CommitmentEach', WHERE WHAT IT READS IS OF BULK AT MOST 1048576: true; the input reads as it did. -/
def commitmentEachUptoRow : OpenClaim := { program := "ytdgekhbmcmojdaa", sum := "5957e36403c1983da5a43dff3f8cbab147523c549243bf3c195bc84150544937", func := "lottery/lotterylaw27.CommitmentEach", spec := "commitmentEach", apart := false, narrowed := true }
def CommitmentEachUptoSaid : Prop := commitmentEachUptoRow.holds Try.pinned (OpenSpec.upto commitmentEachSpec)

/-- 'lotterylaw27.CommitmentNobody', WHERE WHAT IT READS IS OF BULK AT MOST 1048576: true; the input reads as it did. -/
def commitmentNobodyUptoRow : OpenClaim := { program := "ytdgekhbmcmojdaa", sum := "5957e36403c1983da5a43dff3f8cbab147523c549243bf3c195bc84150544937", func := "lottery/lotterylaw27.CommitmentNobody", spec := "commitmentNobody", apart := false, narrowed := true }
def CommitmentNobodyUptoSaid : Prop := commitmentNobodyUptoRow.holds Try.pinned (OpenSpec.upto commitmentNobodySpec)

end Rows
end Go.Proofs.Ytdgekhbmcmojdaa
