/-
  The walks of the functions that compare two lists of numbers or of texts, element by element. Conditions: the lists lie in memory.
-/
import Derived.Test.YtjnaooiklcbemaaProg
import Derived.Test.YtjnaooiklcbemaaMem
import Derived.Deep.QuietTactic
import Derived.BigQuiet
namespace Go.Proofs.Ytjnaooiklcbemaa.Eqs
open Go.RowKit Go.Proofs.Ytjnaooiklcbemaa.Mem
theorem ret_bool {a b : Bool} (h : a = b) : Ending.returned (.bool a) = .returned (.bool b) := by rw [h]





end Go.Proofs.Ytjnaooiklcbemaa.Eqs
