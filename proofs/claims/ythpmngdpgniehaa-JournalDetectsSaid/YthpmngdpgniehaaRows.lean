/-
  No cell of these rows narrows 'for every input' (looked for: loops, veiled, ifaces, maps, wideKeys, modest, calm, conditions, laid).
  DERIVED. THE GIVEN ROWS OF THIS SEAT. 8 by the template 'for every input the law returns true; each argument reads behind the call as it read before'; 0 by the template 'total and deterministic' (their statements: YthpmngdpgniehaaTotals.lean).
  GIVEN WITH THE SEED: the statements are not yours to turn. If you find one false, say at which input.
  Laid BY PROGRAM, IN A SANDBOX (cutbox-rows.mjs): the forced cells as the released guide's own fill.sh prints them over the translation a0ca4818c6bae1bd… (all of the seat's roots in one cut). By AI agents, Wed Nov 11 2026. No macro, syntax, notation, axiom, sorry.
-/
import Derived.Test.YthpmngdpgniehaaChecked
import GoSem.Claim
import GoSem.ClaimJoined
import GoSem.ClaimMapViews
import Derived.JoinedTies
import Derived.KernelRfl
namespace Go.Proofs.Ythpmngdpgniehaa
/- THE CELL 'sum', in the pinned program and in every row, IS THE sha256 OF THE DUMP (.gsa) THAT YthpmngdpgniehaaProg.lean LOADS. Nothing in Lean hashes anything: it is a label: what it is worth is what the hold of that sum in a sandbox is worth. -/
noncomputable def Try.pinned : Pinned := { name := "ythpmngdpgniehaa", sum := "a0ca4818c6bae1bde9473daf09cfd7afacaf5972e8e1cb6e18eecb5a7b6c81ed", checked := Try.checked }
namespace Rows
def none {H : Type} : Left H := { results := [], args := [] }

/-- 'lotterylaw50.JournalNobody': WHATEVER THE INPUT: true; the input reads as it did. -/
def journalNobodySpec : ChangeSpec := { name := "journalNobody", fn := fun _ => fun
  | [d1, d2] => { results := [.lit (.bool true)], args := [d1, d2] }
  | _ => none }
def journalNobodyRow : OpenClaim := { program := "ythpmngdpgniehaa", sum := "a0ca4818c6bae1bde9473daf09cfd7afacaf5972e8e1cb6e18eecb5a7b6c81ed", func := "lottery/lotterylaw50.JournalNobody", spec := "journalNobody", unfollowed := true, recurses := true, apart := false }
def JournalNobodySaid : Prop := journalNobodyRow.holds Try.pinned (OpenSpec.ofChange journalNobodySpec)

/-- ITS FALSE NEIGHBOUR: 'it returns false'. Refute it at one input. -/
def journalNobodyWrong : ChangeSpec := { name := "journalNobody", fn := fun _ => fun
  | [d1, d2] => { results := [.lit (.bool false)], args := [d1, d2] }
  | _ => none }
def JournalNobodyWrongFalsely : Prop := journalNobodyRow.holds Try.pinned (OpenSpec.ofChange journalNobodyWrong)

/-- 'lotterylaw50.JournalEncodes': WHATEVER THE INPUT: true; the input reads as it did. -/
def journalEncodesSpec : ChangeSpec := { name := "journalEncodes", fn := fun _ => fun
  | [d1, d2] => { results := [.lit (.bool true)], args := [d1, d2] }
  | _ => none }
def journalEncodesRow : OpenClaim := { program := "ythpmngdpgniehaa", sum := "a0ca4818c6bae1bde9473daf09cfd7afacaf5972e8e1cb6e18eecb5a7b6c81ed", func := "lottery/lotterylaw50.JournalEncodes", spec := "journalEncodes", unfollowed := true, recurses := true, apart := false }
def JournalEncodesSaid : Prop := journalEncodesRow.holds Try.pinned (OpenSpec.ofChange journalEncodesSpec)

/-- ITS FALSE NEIGHBOUR: 'it returns false'. Refute it at one input. -/
def journalEncodesWrong : ChangeSpec := { name := "journalEncodes", fn := fun _ => fun
  | [d1, d2] => { results := [.lit (.bool false)], args := [d1, d2] }
  | _ => none }
def JournalEncodesWrongFalsely : Prop := journalEncodesRow.holds Try.pinned (OpenSpec.ofChange journalEncodesWrong)

/-- 'lotterylaw50.JournalDecodes': WHATEVER THE INPUT: true; the input reads as it did. -/
def journalDecodesSpec : ChangeSpec := { name := "journalDecodes", fn := fun _ => fun
  | [d] => { results := [.lit (.bool true)], args := [d] }
  | _ => none }
def journalDecodesRow : OpenClaim := { program := "ythpmngdpgniehaa", sum := "a0ca4818c6bae1bde9473daf09cfd7afacaf5972e8e1cb6e18eecb5a7b6c81ed", func := "lottery/lotterylaw50.JournalDecodes", spec := "journalDecodes", unfollowed := true, recurses := true, apart := false }
def JournalDecodesSaid : Prop := journalDecodesRow.holds Try.pinned (OpenSpec.ofChange journalDecodesSpec)

/-- ITS FALSE NEIGHBOUR: 'it returns false'. Refute it at one input. -/
def journalDecodesWrong : ChangeSpec := { name := "journalDecodes", fn := fun _ => fun
  | [d] => { results := [.lit (.bool false)], args := [d] }
  | _ => none }
def JournalDecodesWrongFalsely : Prop := journalDecodesRow.holds Try.pinned (OpenSpec.ofChange journalDecodesWrong)

/-- 'lotterylaw50.JournalReads': WHATEVER THE INPUT: true; the input reads as it did. -/
def journalReadsSpec : ChangeSpec := { name := "journalReads", fn := fun _ => fun
  | [d] => { results := [.lit (.bool true)], args := [d] }
  | _ => none }
def journalReadsRow : OpenClaim := { program := "ythpmngdpgniehaa", sum := "a0ca4818c6bae1bde9473daf09cfd7afacaf5972e8e1cb6e18eecb5a7b6c81ed", func := "lottery/lotterylaw50.JournalReads", spec := "journalReads", unfollowed := true, recurses := true, apart := false }
def JournalReadsSaid : Prop := journalReadsRow.holds Try.pinned (OpenSpec.ofChange journalReadsSpec)

/-- ITS FALSE NEIGHBOUR: 'it returns false'. Refute it at one input. -/
def journalReadsWrong : ChangeSpec := { name := "journalReads", fn := fun _ => fun
  | [d] => { results := [.lit (.bool false)], args := [d] }
  | _ => none }
def JournalReadsWrongFalsely : Prop := journalReadsRow.holds Try.pinned (OpenSpec.ofChange journalReadsWrong)

/-- 'lotterylaw50.JournalDetects': WHATEVER THE INPUT: true; the input reads as it did. -/
def journalDetectsSpec : ChangeSpec := { name := "journalDetects", fn := fun _ => fun
  | [d1, d2, d3] => { results := [.lit (.bool true)], args := [d1, d2, d3] }
  | _ => none }
def journalDetectsRow : OpenClaim := { program := "ythpmngdpgniehaa", sum := "a0ca4818c6bae1bde9473daf09cfd7afacaf5972e8e1cb6e18eecb5a7b6c81ed", func := "lottery/lotterylaw50.JournalDetects", spec := "journalDetects", unfollowed := true, recurses := true, apart := false }
def JournalDetectsSaid : Prop := journalDetectsRow.holds Try.pinned (OpenSpec.ofChange journalDetectsSpec)

/-- ITS FALSE NEIGHBOUR: 'it returns false'. Refute it at one input. -/
def journalDetectsWrong : ChangeSpec := { name := "journalDetects", fn := fun _ => fun
  | [d1, d2, d3] => { results := [.lit (.bool false)], args := [d1, d2, d3] }
  | _ => none }
def JournalDetectsWrongFalsely : Prop := journalDetectsRow.holds Try.pinned (OpenSpec.ofChange journalDetectsWrong)

/-- 'lotterylaw50.JournalBegins': WHATEVER THE INPUT: true; the input reads as it did. -/
def journalBeginsSpec : ChangeSpec := { name := "journalBegins", fn := fun _ => fun
  | [d1, d2] => { results := [.lit (.bool true)], args := [d1, d2] }
  | _ => none }
def journalBeginsRow : OpenClaim := { program := "ythpmngdpgniehaa", sum := "a0ca4818c6bae1bde9473daf09cfd7afacaf5972e8e1cb6e18eecb5a7b6c81ed", func := "lottery/lotterylaw50.JournalBegins", spec := "journalBegins", unfollowed := true, recurses := true, apart := false }
def JournalBeginsSaid : Prop := journalBeginsRow.holds Try.pinned (OpenSpec.ofChange journalBeginsSpec)

/-- ITS FALSE NEIGHBOUR: 'it returns false'. Refute it at one input. -/
def journalBeginsWrong : ChangeSpec := { name := "journalBegins", fn := fun _ => fun
  | [d1, d2] => { results := [.lit (.bool false)], args := [d1, d2] }
  | _ => none }
def JournalBeginsWrongFalsely : Prop := journalBeginsRow.holds Try.pinned (OpenSpec.ofChange journalBeginsWrong)

/-- 'lotterylaw50.JournalAppends': WHATEVER THE INPUT: true; the input reads as it did. -/
def journalAppendsSpec : ChangeSpec := { name := "journalAppends", fn := fun _ => fun
  | [d1, d2] => { results := [.lit (.bool true)], args := [d1, d2] }
  | _ => none }
def journalAppendsRow : OpenClaim := { program := "ythpmngdpgniehaa", sum := "a0ca4818c6bae1bde9473daf09cfd7afacaf5972e8e1cb6e18eecb5a7b6c81ed", func := "lottery/lotterylaw50.JournalAppends", spec := "journalAppends", unfollowed := true, recurses := true, apart := false }
def JournalAppendsSaid : Prop := journalAppendsRow.holds Try.pinned (OpenSpec.ofChange journalAppendsSpec)

/-- ITS FALSE NEIGHBOUR: 'it returns false'. Refute it at one input. -/
def journalAppendsWrong : ChangeSpec := { name := "journalAppends", fn := fun _ => fun
  | [d1, d2] => { results := [.lit (.bool false)], args := [d1, d2] }
  | _ => none }
def JournalAppendsWrongFalsely : Prop := journalAppendsRow.holds Try.pinned (OpenSpec.ofChange journalAppendsWrong)

/-- 'lotterylaw50.JournalRoundTrips': WHATEVER THE INPUT: true; the input reads as it did. -/
def journalRoundTripsSpec : ChangeSpec := { name := "journalRoundTrips", fn := fun _ => fun
  | [d] => { results := [.lit (.bool true)], args := [d] }
  | _ => none }
def journalRoundTripsRow : OpenClaim := { program := "ythpmngdpgniehaa", sum := "a0ca4818c6bae1bde9473daf09cfd7afacaf5972e8e1cb6e18eecb5a7b6c81ed", func := "lottery/lotterylaw50.JournalRoundTrips", spec := "journalRoundTrips", unfollowed := true, recurses := true, apart := false }
def JournalRoundTripsSaid : Prop := journalRoundTripsRow.holds Try.pinned (OpenSpec.ofChange journalRoundTripsSpec)

/-- ITS FALSE NEIGHBOUR: 'it returns false'. Refute it at one input. -/
def journalRoundTripsWrong : ChangeSpec := { name := "journalRoundTrips", fn := fun _ => fun
  | [d] => { results := [.lit (.bool false)], args := [d] }
  | _ => none }
def JournalRoundTripsWrongFalsely : Prop := journalRoundTripsRow.holds Try.pinned (OpenSpec.ofChange journalRoundTripsWrong)

/- THE SECOND FORM. 'bulk': how many values and letters a reading holds, each counted each time it is reached (what is shared counts as often as it is met; a slice's spare places count too). A statement '..UptoSaid' is the law's where the arguments, and the package variables that the reading takes, are together of bulk at most 1048576: NARROWER than '..Said'. Prove '..Said' where nothing that the law and all that it calls make is longer than what came in: it says more and counts as full. Else prove '..UptoSaid'. A law counts once. -/
mutual
def uptoBulk {H : Type} : DataW H → Nat
  | .lit (.string bytes) => bytes.length + 1
  | .lit _ => 1
  | .nil => 1
  | .ptr d => uptoBulk d + 1
  | .slice elems spare => uptoBulkAll elems + uptoBulkAll spare + 1
  | .agg parts => uptoBulkAll parts + 1
  | .iface _ d => uptoBulk d + 1
  | .map entries => uptoBulkEntries entries + 1
  | .held _ => 1
def uptoBulkAll {H : Type} : List (DataW H) → Nat
  | [] => 0
  | d :: r => uptoBulk d + uptoBulkAll r
def uptoBulkEntries {H : Type} : List (Lit × DataW H) → Nat
  | [] => 0
  | x :: r => uptoBulkEntry x + uptoBulkEntries r
def uptoBulkEntry {H : Type} : Lit × DataW H → Nat
  | (.string bytes, d) => bytes.length + uptoBulk d + 1
  | (_, d) => uptoBulk d + 1
 end
def uptoSmall : (H : Type) → List (DataW H) → Bool := fun _ ds => decide (uptoBulkAll ds ≤ 1048576)
def OpenSpec.upto (s : _root_.Go.ChangeSpec) : _root_.Go.OpenSpec := { _root_.Go.OpenSpec.ofChange s with cond := some uptoSmall }

/-- 'lotterylaw50.JournalNobody', WHERE WHAT IT READS IS OF BULK AT MOST 1048576: true; the input reads as it did. -/
def journalNobodyUptoRow : OpenClaim := { program := "ythpmngdpgniehaa", sum := "a0ca4818c6bae1bde9473daf09cfd7afacaf5972e8e1cb6e18eecb5a7b6c81ed", func := "lottery/lotterylaw50.JournalNobody", spec := "journalNobody", unfollowed := true, recurses := true, apart := false, narrowed := true }
def JournalNobodyUptoSaid : Prop := journalNobodyUptoRow.holds Try.pinned (OpenSpec.upto journalNobodySpec)

/-- 'lotterylaw50.JournalEncodes', WHERE WHAT IT READS IS OF BULK AT MOST 1048576: true; the input reads as it did. -/
def journalEncodesUptoRow : OpenClaim := { program := "ythpmngdpgniehaa", sum := "a0ca4818c6bae1bde9473daf09cfd7afacaf5972e8e1cb6e18eecb5a7b6c81ed", func := "lottery/lotterylaw50.JournalEncodes", spec := "journalEncodes", unfollowed := true, recurses := true, apart := false, narrowed := true }
def JournalEncodesUptoSaid : Prop := journalEncodesUptoRow.holds Try.pinned (OpenSpec.upto journalEncodesSpec)

/-- 'lotterylaw50.JournalDecodes', WHERE WHAT IT READS IS OF BULK AT MOST 1048576: true; the input reads as it did. -/
def journalDecodesUptoRow : OpenClaim := { program := "ythpmngdpgniehaa", sum := "a0ca4818c6bae1bde9473daf09cfd7afacaf5972e8e1cb6e18eecb5a7b6c81ed", func := "lottery/lotterylaw50.JournalDecodes", spec := "journalDecodes", unfollowed := true, recurses := true, apart := false, narrowed := true }
def JournalDecodesUptoSaid : Prop := journalDecodesUptoRow.holds Try.pinned (OpenSpec.upto journalDecodesSpec)

/-- 'lotterylaw50.JournalReads', WHERE WHAT IT READS IS OF BULK AT MOST 1048576: true; the input reads as it did. -/
def journalReadsUptoRow : OpenClaim := { program := "ythpmngdpgniehaa", sum := "a0ca4818c6bae1bde9473daf09cfd7afacaf5972e8e1cb6e18eecb5a7b6c81ed", func := "lottery/lotterylaw50.JournalReads", spec := "journalReads", unfollowed := true, recurses := true, apart := false, narrowed := true }
def JournalReadsUptoSaid : Prop := journalReadsUptoRow.holds Try.pinned (OpenSpec.upto journalReadsSpec)

/-- 'lotterylaw50.JournalDetects', WHERE WHAT IT READS IS OF BULK AT MOST 1048576: true; the input reads as it did. -/
def journalDetectsUptoRow : OpenClaim := { program := "ythpmngdpgniehaa", sum := "a0ca4818c6bae1bde9473daf09cfd7afacaf5972e8e1cb6e18eecb5a7b6c81ed", func := "lottery/lotterylaw50.JournalDetects", spec := "journalDetects", unfollowed := true, recurses := true, apart := false, narrowed := true }
def JournalDetectsUptoSaid : Prop := journalDetectsUptoRow.holds Try.pinned (OpenSpec.upto journalDetectsSpec)

/-- 'lotterylaw50.JournalBegins', WHERE WHAT IT READS IS OF BULK AT MOST 1048576: true; the input reads as it did. -/
def journalBeginsUptoRow : OpenClaim := { program := "ythpmngdpgniehaa", sum := "a0ca4818c6bae1bde9473daf09cfd7afacaf5972e8e1cb6e18eecb5a7b6c81ed", func := "lottery/lotterylaw50.JournalBegins", spec := "journalBegins", unfollowed := true, recurses := true, apart := false, narrowed := true }
def JournalBeginsUptoSaid : Prop := journalBeginsUptoRow.holds Try.pinned (OpenSpec.upto journalBeginsSpec)

/-- 'lotterylaw50.JournalAppends', WHERE WHAT IT READS IS OF BULK AT MOST 1048576: true; the input reads as it did. -/
def journalAppendsUptoRow : OpenClaim := { program := "ythpmngdpgniehaa", sum := "a0ca4818c6bae1bde9473daf09cfd7afacaf5972e8e1cb6e18eecb5a7b6c81ed", func := "lottery/lotterylaw50.JournalAppends", spec := "journalAppends", unfollowed := true, recurses := true, apart := false, narrowed := true }
def JournalAppendsUptoSaid : Prop := journalAppendsUptoRow.holds Try.pinned (OpenSpec.upto journalAppendsSpec)

/-- 'lotterylaw50.JournalRoundTrips', WHERE WHAT IT READS IS OF BULK AT MOST 1048576: true; the input reads as it did. -/
def journalRoundTripsUptoRow : OpenClaim := { program := "ythpmngdpgniehaa", sum := "a0ca4818c6bae1bde9473daf09cfd7afacaf5972e8e1cb6e18eecb5a7b6c81ed", func := "lottery/lotterylaw50.JournalRoundTrips", spec := "journalRoundTrips", unfollowed := true, recurses := true, apart := false, narrowed := true }
def JournalRoundTripsUptoSaid : Prop := journalRoundTripsUptoRow.holds Try.pinned (OpenSpec.upto journalRoundTripsSpec)

end Rows
end Go.Proofs.Ythpmngdpgniehaa
