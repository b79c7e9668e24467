/-
  Bytes turned to a string: the operation is kept shut ('convAt'), and its run is told. No conditions.
-/
import Derived.Test.YteikdmkplbbckaaApp
import Derived.Test.YteikdmkplbbckaaProg
namespace Go.Proofs.Yteikdmkplbbckaa.Mem
open Go Go.RowKit

def convAt (v : Value) : Sem Value := convert 38 9 v
theorem exec_conv (ρ : Operand → Value) (dst : Option Tmp) (x : Operand) (ty : TypeId) (pos : String) (after : Array Edge) (guard : Option (Nat × Bool)) :
    execOp ρ { dst, op := .convert 38 9 x, type := ty, pos, after, guard } = (do pure (.value (← convAt (ρ x)))) := rfl
theorem run_conv {W : World} {A : Option Addr} {n : Nat} {l : List UInt8} (h : Sl W 1 A n (byts l)) (c : Nat) : (convAt (.slice A n c)).run Try.prog W = .ok (.string ⟨l.toArray⟩) W :=
  run_string_sl (P := Try.prog) 38 9 5 Try.underlying38 Try.underlying5 Try.underlying9 h c
end Go.Proofs.Yteikdmkplbbckaa.Mem
