/-
  No cell of these rows narrows 'for every input' (looked for: loops, veiled, ifaces, maps, wideKeys, modest, calm, conditions, laid).
  DERIVED. THE GIVEN ROWS OF THIS SEAT. 7 by the template 'for every input the law returns true; each argument reads behind the call as it read before'; 0 by the template 'total and deterministic' (their statements: YtjnaooiklcbemaaTotals.lean).
  GIVEN WITH THE SEED: the statements are not yours to turn. If you find one false, say at which input.
  Laid BY PROGRAM, IN A SANDBOX (cutbox-rows.mjs): the forced cells as the released guide's own fill.sh prints them over the translation 81b4c12a094a4e9d… (all of the seat's roots in one cut). By AI agents, Wed Nov 11 2026. No macro, syntax, notation, axiom, sorry.
-/
import Derived.Test.YtjnaooiklcbemaaChecked
import GoSem.Claim
import GoSem.ClaimJoined
import GoSem.ClaimMapViews
import Derived.JoinedTies
import Derived.KernelRfl
namespace Go.Proofs.Ytjnaooiklcbemaa
/- THE CELL 'sum', in the pinned program and in every row, IS THE sha256 OF THE DUMP (.gsa) THAT YtjnaooiklcbemaaProg.lean LOADS. Nothing in Lean hashes anything: it is a label: what it is worth is what the hold of that sum in a sandbox is worth. -/
noncomputable def Try.pinned : Pinned := { name := "ytjnaooiklcbemaa", sum := "81b4c12a094a4e9d60920f2e37b514d72d30cac88fb8e5f9517207bc06985441", checked := Try.checked }
namespace Rows
def none {H : Type} : Left H := { results := [], args := [] }

/-- 'lotterylaw19.ReceiptSigns': WHATEVER THE INPUT: true; the input reads as it did. -/
def receiptSignsSpec : ChangeSpec := { name := "receiptSigns", fn := fun _ => fun
  | [d1, d2] => { results := [.lit (.bool true)], args := [d1, d2] }
  | _ => none }
def receiptSignsRow : OpenClaim := { program := "ytjnaooiklcbemaa", sum := "81b4c12a094a4e9d60920f2e37b514d72d30cac88fb8e5f9517207bc06985441", func := "lottery/lotterylaw19.ReceiptSigns", spec := "receiptSigns", apart := false }
def ReceiptSignsSaid : Prop := receiptSignsRow.holds Try.pinned (OpenSpec.ofChange receiptSignsSpec)

/-- ITS FALSE NEIGHBOUR: 'it returns false'. Refute it at one input. -/
def receiptSignsWrong : ChangeSpec := { name := "receiptSigns", fn := fun _ => fun
  | [d1, d2] => { results := [.lit (.bool false)], args := [d1, d2] }
  | _ => none }
def ReceiptSignsWrongFalsely : Prop := receiptSignsRow.holds Try.pinned (OpenSpec.ofChange receiptSignsWrong)

/-- 'lotterylaw19.ReceiptIssues': WHATEVER THE INPUT: true; the input reads as it did. -/
def receiptIssuesSpec : ChangeSpec := { name := "receiptIssues", fn := fun _ => fun
  | [d1, d2, d3] => { results := [.lit (.bool true)], args := [d1, d2, d3] }
  | _ => none }
def receiptIssuesRow : OpenClaim := { program := "ytjnaooiklcbemaa", sum := "81b4c12a094a4e9d60920f2e37b514d72d30cac88fb8e5f9517207bc06985441", func := "lottery/lotterylaw19.ReceiptIssues", spec := "receiptIssues", apart := false }
def ReceiptIssuesSaid : Prop := receiptIssuesRow.holds Try.pinned (OpenSpec.ofChange receiptIssuesSpec)

/-- ITS FALSE NEIGHBOUR: 'it returns false'. Refute it at one input. -/
def receiptIssuesWrong : ChangeSpec := { name := "receiptIssues", fn := fun _ => fun
  | [d1, d2, d3] => { results := [.lit (.bool false)], args := [d1, d2, d3] }
  | _ => none }
def ReceiptIssuesWrongFalsely : Prop := receiptIssuesRow.holds Try.pinned (OpenSpec.ofChange receiptIssuesWrong)

/-- 'lotterylaw19.ReceiptEncodes': WHATEVER THE INPUT: true; the input reads as it did. -/
def receiptEncodesSpec : ChangeSpec := { name := "receiptEncodes", fn := fun _ => fun
  | [d] => { results := [.lit (.bool true)], args := [d] }
  | _ => none }
def receiptEncodesRow : OpenClaim := { program := "ytjnaooiklcbemaa", sum := "81b4c12a094a4e9d60920f2e37b514d72d30cac88fb8e5f9517207bc06985441", func := "lottery/lotterylaw19.ReceiptEncodes", spec := "receiptEncodes", apart := false }
def ReceiptEncodesSaid : Prop := receiptEncodesRow.holds Try.pinned (OpenSpec.ofChange receiptEncodesSpec)

/-- ITS FALSE NEIGHBOUR: 'it returns false'. Refute it at one input. -/
def receiptEncodesWrong : ChangeSpec := { name := "receiptEncodes", fn := fun _ => fun
  | [d] => { results := [.lit (.bool false)], args := [d] }
  | _ => none }
def ReceiptEncodesWrongFalsely : Prop := receiptEncodesRow.holds Try.pinned (OpenSpec.ofChange receiptEncodesWrong)

/-- 'lotterylaw19.ReceiptDecodes': WHATEVER THE INPUT: true; the input reads as it did. -/
def receiptDecodesSpec : ChangeSpec := { name := "receiptDecodes", fn := fun _ => fun
  | [d] => { results := [.lit (.bool true)], args := [d] }
  | _ => none }
def receiptDecodesRow : OpenClaim := { program := "ytjnaooiklcbemaa", sum := "81b4c12a094a4e9d60920f2e37b514d72d30cac88fb8e5f9517207bc06985441", func := "lottery/lotterylaw19.ReceiptDecodes", spec := "receiptDecodes", apart := false }
def ReceiptDecodesSaid : Prop := receiptDecodesRow.holds Try.pinned (OpenSpec.ofChange receiptDecodesSpec)

/-- ITS FALSE NEIGHBOUR: 'it returns false'. Refute it at one input. -/
def receiptDecodesWrong : ChangeSpec := { name := "receiptDecodes", fn := fun _ => fun
  | [d] => { results := [.lit (.bool false)], args := [d] }
  | _ => none }
def ReceiptDecodesWrongFalsely : Prop := receiptDecodesRow.holds Try.pinned (OpenSpec.ofChange receiptDecodesWrong)

/-- 'lotterylaw19.ReceiptRoundTrips': WHATEVER THE INPUT: true; the input reads as it did. -/
def receiptRoundTripsSpec : ChangeSpec := { name := "receiptRoundTrips", fn := fun _ => fun
  | [d1, d2] => { results := [.lit (.bool true)], args := [d1, d2] }
  | _ => none }
def receiptRoundTripsRow : OpenClaim := { program := "ytjnaooiklcbemaa", sum := "81b4c12a094a4e9d60920f2e37b514d72d30cac88fb8e5f9517207bc06985441", func := "lottery/lotterylaw19.ReceiptRoundTrips", spec := "receiptRoundTrips", apart := false }
def ReceiptRoundTripsSaid : Prop := receiptRoundTripsRow.holds Try.pinned (OpenSpec.ofChange receiptRoundTripsSpec)

/-- ITS FALSE NEIGHBOUR: 'it returns false'. Refute it at one input. -/
def receiptRoundTripsWrong : ChangeSpec := { name := "receiptRoundTrips", fn := fun _ => fun
  | [d1, d2] => { results := [.lit (.bool false)], args := [d1, d2] }
  | _ => none }
def ReceiptRoundTripsWrongFalsely : Prop := receiptRoundTripsRow.holds Try.pinned (OpenSpec.ofChange receiptRoundTripsWrong)

/-- 'lotterylaw19.ReceiptVerifies': WHATEVER THE INPUT: true; the input reads as it did. -/
def receiptVerifiesSpec : ChangeSpec := { name := "receiptVerifies", fn := fun _ => fun
  | [d1, d2, d3, d4, d5] => { results := [.lit (.bool true)], args := [d1, d2, d3, d4, d5] }
  | _ => none }
def receiptVerifiesRow : OpenClaim := { program := "ytjnaooiklcbemaa", sum := "81b4c12a094a4e9d60920f2e37b514d72d30cac88fb8e5f9517207bc06985441", func := "lottery/lotterylaw19.ReceiptVerifies", spec := "receiptVerifies", apart := false }
def ReceiptVerifiesSaid : Prop := receiptVerifiesRow.holds Try.pinned (OpenSpec.ofChange receiptVerifiesSpec)

/-- ITS FALSE NEIGHBOUR: 'it returns false'. Refute it at one input. -/
def receiptVerifiesWrong : ChangeSpec := { name := "receiptVerifies", fn := fun _ => fun
  | [d1, d2, d3, d4, d5] => { results := [.lit (.bool false)], args := [d1, d2, d3, d4, d5] }
  | _ => none }
def ReceiptVerifiesWrongFalsely : Prop := receiptVerifiesRow.holds Try.pinned (OpenSpec.ofChange receiptVerifiesWrong)

/-- 'lotterylaw19.ReceiptBinds': WHATEVER THE INPUT: true; the input reads as it did. -/
def receiptBindsSpec : ChangeSpec := { name := "receiptBinds", fn := fun _ => fun
  | [d1, d2, d3] => { results := [.lit (.bool true)], args := [d1, d2, d3] }
  | _ => none }
def receiptBindsRow : OpenClaim := { program := "ytjnaooiklcbemaa", sum := "81b4c12a094a4e9d60920f2e37b514d72d30cac88fb8e5f9517207bc06985441", func := "lottery/lotterylaw19.ReceiptBinds", spec := "receiptBinds", apart := false }
def ReceiptBindsSaid : Prop := receiptBindsRow.holds Try.pinned (OpenSpec.ofChange receiptBindsSpec)

/-- ITS FALSE NEIGHBOUR: 'it returns false'. Refute it at one input. -/
def receiptBindsWrong : ChangeSpec := { name := "receiptBinds", fn := fun _ => fun
  | [d1, d2, d3] => { results := [.lit (.bool false)], args := [d1, d2, d3] }
  | _ => none }
def ReceiptBindsWrongFalsely : Prop := receiptBindsRow.holds Try.pinned (OpenSpec.ofChange receiptBindsWrong)

/- THE SECOND FORM. 'bulk': how many values and letters a reading holds, each counted each time it is reached (what is shared counts as often as it is met; a slice's spare places count too). A statement '..UptoSaid' is the law's where the arguments, and the package variables that the reading takes, are together of bulk at most 1048576: NARROWER than '..Said'. Prove '..Said' where nothing that the law and all that it calls make is longer than what came in: it says more and counts as full. Else prove '..UptoSaid'. A law counts once. -/
mutual
def uptoBulk {H : Type} : DataW H → Nat
  | .lit (.string bytes) => bytes.length + 1
  | .lit _ => 1
  | .nil => 1
  | .ptr d => uptoBulk d + 1
  | .slice elems spare => uptoBulkAll elems + uptoBulkAll spare + 1
  | .agg parts => uptoBulkAll parts + 1
  | .iface _ d => uptoBulk d + 1
  | .map entries => uptoBulkEntries entries + 1
  | .held _ => 1
def uptoBulkAll {H : Type} : List (DataW H) → Nat
  | [] => 0
  | d :: r => uptoBulk d + uptoBulkAll r
def uptoBulkEntries {H : Type} : List (Lit × DataW H) → Nat
  | [] => 0
  | x :: r => uptoBulkEntry x + uptoBulkEntries r
def uptoBulkEntry {H : Type} : Lit × DataW H → Nat
  | (.string bytes, d) => bytes.length + uptoBulk d + 1
  | (_, d) => uptoBulk d + 1
 end
def uptoSmall : (H : Type) → List (DataW H) → Bool := fun _ ds => decide (uptoBulkAll ds ≤ 1048576)
def OpenSpec.upto (s : _root_.Go.ChangeSpec) : _root_.Go.OpenSpec := { _root_.Go.OpenSpec.ofChange s with cond := some uptoSmall }

/-- 'lotterylaw19.ReceiptSigns', WHERE WHAT IT READS IS OF BULK AT MOST 1048576: true; the input reads as it did. -/
def receiptSignsUptoRow : OpenClaim := { program := "ytjnaooiklcbemaa", sum := "81b4c12a094a4e9d60920f2e37b514d72d30cac88fb8e5f9517207bc06985441", func := "lottery/lotterylaw19.ReceiptSigns", spec := "receiptSigns", apart := false, narrowed := true }
def ReceiptSignsUptoSaid : Prop := receiptSignsUptoRow.holds Try.pinned (OpenSpec.upto receiptSignsSpec)

/-- 'lotterylaw19.ReceiptIssues', WHERE WHAT IT READS IS OF BULK AT MOST 1048576: true; the input reads as it did. -/
def receiptIssuesUptoRow : OpenClaim := { program := "ytjnaooiklcbemaa", sum := "81b4c12a094a4e9d60920f2e37b514d72d30cac88fb8e5f9517207bc06985441", func := "lottery/lotterylaw19.ReceiptIssues", spec := "receiptIssues", apart := false, narrowed := true }
def ReceiptIssuesUptoSaid : Prop := receiptIssuesUptoRow.holds Try.pinned (OpenSpec.upto receiptIssuesSpec)

/-- 'lotterylaw19.ReceiptEncodes', WHERE WHAT IT READS IS OF BULK AT MOST 1048576: true; the input reads as it did. -/
def receiptEncodesUptoRow : OpenClaim := { program := "ytjnaooiklcbemaa", sum := "81b4c12a094a4e9d60920f2e37b514d72d30cac88fb8e5f9517207bc06985441", func := "lottery/lotterylaw19.ReceiptEncodes", spec := "receiptEncodes", apart := false, narrowed := true }
def ReceiptEncodesUptoSaid : Prop := receiptEncodesUptoRow.holds Try.pinned (OpenSpec.upto receiptEncodesSpec)

/-- 'lotterylaw19.ReceiptDecodes', WHERE WHAT IT READS IS OF BULK AT MOST 1048576: true; the input reads as it did. -/
def receiptDecodesUptoRow : OpenClaim := { program := "ytjnaooiklcbemaa", sum := "81b4c12a094a4e9d60920f2e37b514d72d30cac88fb8e5f9517207bc06985441", func := "lottery/lotterylaw19.ReceiptDecodes", spec := "receiptDecodes", apart := false, narrowed := true }
def ReceiptDecodesUptoSaid : Prop := receiptDecodesUptoRow.holds Try.pinned (OpenSpec.upto receiptDecodesSpec)

/-- 'lotterylaw19.ReceiptRoundTrips', WHERE WHAT IT READS IS OF BULK AT MOST 1048576: true; the input reads as it did. -/
def receiptRoundTripsUptoRow : OpenClaim := { program := "ytjnaooiklcbemaa", sum := "81b4c12a094a4e9d60920f2e37b514d72d30cac88fb8e5f9517207bc06985441", func := "lottery/lotterylaw19.ReceiptRoundTrips", spec := "receiptRoundTrips", apart := false, narrowed := true }
def ReceiptRoundTripsUptoSaid : Prop := receiptRoundTripsUptoRow.holds Try.pinned (OpenSpec.upto receiptRoundTripsSpec)

/-- 'lotterylaw19.ReceiptVerifies', WHERE WHAT IT READS IS OF BULK AT MOST 1048576: true; the input reads as it did. -/
def receiptVerifiesUptoRow : OpenClaim := { program := "ytjnaooiklcbemaa", sum := "81b4c12a094a4e9d60920f2e37b514d72d30cac88fb8e5f9517207bc06985441", func := "lottery/lotterylaw19.ReceiptVerifies", spec := "receiptVerifies", apart := false, narrowed := true }
def ReceiptVerifiesUptoSaid : Prop := receiptVerifiesUptoRow.holds Try.pinned (OpenSpec.upto receiptVerifiesSpec)

/-- 'lotterylaw19.ReceiptBinds', WHERE WHAT IT READS IS OF BULK AT MOST 1048576: true; the input reads as it did. -/
def receiptBindsUptoRow : OpenClaim := { program := "ytjnaooiklcbemaa", sum := "81b4c12a094a4e9d60920f2e37b514d72d30cac88fb8e5f9517207bc06985441", func := "lottery/lotterylaw19.ReceiptBinds", spec := "receiptBinds", apart := false, narrowed := true }
def ReceiptBindsUptoSaid : Prop := receiptBindsUptoRow.holds Try.pinned (OpenSpec.upto receiptBindsSpec)

end Rows
end Go.Proofs.Ytjnaooiklcbemaa
