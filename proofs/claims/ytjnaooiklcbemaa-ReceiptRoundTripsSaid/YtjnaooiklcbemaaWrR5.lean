/-
  The walks of wire's Reader, fifth part: list, Ints, NewReader. Conditions: the reader's block and its bytes lie in memory.
-/
import Derived.Test.YtjnaooiklcbemaaWrR4
namespace Go.Proofs.Ytjnaooiklcbemaa.Wr
open Go.RowKit Go.Proofs.Ytjnaooiklcbemaa.Mem

/-- a new reader: a copy of the bytes. -/
def NewRd (T : TypeId) (bs : List UInt8) (w : World) (e : Ending) (w' : World) : Prop :=
  ∃ g A, e = .returned (.pointer (some ⟨g, 0, none⟩)) ∧ (∀ k, rown g A k → w.heap.size ≤ k) ∧ Rd T w' g A bs ⟨0, 0⟩ ∧ Below w.heap.size w w'
set_option maxRecDepth 100000 in
set_option maxHeartbeats 1000000 in
theorem newReader_any (bs : List UInt8) (A : Option Addr) (n c : Nat) (w : World) (hs : Sl w 1 A n (byts bs)) (hl : n ≤ 100000000000) :
    Calls Try.prog 33 #[.slice A n c] w (NewRd 78 bs w) := by
  obtain ⟨i0, hi0, hz0, hz1, hz2⟩ := info_parts u8_info
  have LN : Hid (bs.length = n) := by show _ = _; simpa [byts_len] using hs.1
  have HS := Lib.hid hs
  clear hs
  go_enter Try.func33, Try.ntmps33
  go_wp2_with (at_builtin; refine wpList_append_sl _ rfl (.const (.slice none 0 0)) (.tmp 3) 38 rfl 5 i0 (.int .u8 0) 1 1 Try.underlying38 hi0 hz0 hz1 hz2 rfl (by decide) (.slice none 0 0) 0 [] rfl (World.ownsRow_nil _ _ _ _) A n c (byts bs) rfl HS.out (byts_one _) (by unfold maxLen; omega) (by omega) ?_; intro v1 w1 hown1 hg1 hat1; obtain ⟨A1, c1, rfl, hs1⟩ := own_form hown1; have H1 := Lib.hid hown1; have H2 := Lib.hid hg1; have H3 := Lib.hid hat1; have H4 := Lib.hid hs1; clear hown1 hg1 hat1 hs1)
  go_ret
  have hlt : ∀ a, A1 = some a → a.block < w1.heap.size := fun a e => (H1.out.lt a.block (by rw [e]; rfl)).2
  have hge : ∀ a, A1 = some a → w.heap.size ≤ a.block := fun a e => by
    have h5 := H3.out
    rw [e] at h5
    rcases h5 with h5 | h5
    · cases h5
    · injection h5 with h5
      exact Nat.le_of_eq h5.symm
  have hcap : n ≤ c1 ∧ c1 ≤ 9223372036854775807 := by
    rcases H1.out.2 with ⟨e, h0⟩ | ⟨g, cap, cur, e, _, _, h6, h7, _⟩
    · injection e with _ _ e3
      omega
    · injection e with _ _ e3
      unfold maxLen at h7
      omega
  have hb : Below w.heap.size w w1 := (Frm.of_grown (F := fun _ => False) H2.out (fun i hi => by cases hi)).below (Nat.le_refl _) (fun _ _ g => g)
  refine ⟨w1.heap.size, A1, rfl, fun k hk => ?_, ⟨⟨c1, ?_, ?_⟩, ?_, fun a e => ⟨Nat.ne_of_lt (hlt a e), by have := hlt a e; simp; omega⟩, ⟨Nat.zero_le _, by show (0 : Int) ≤ 0; omega, by show (0 : Int) ≤ 32; omega⟩, by rw [LN.out]; exact hl⟩, hb.alloc hb.size _⟩
  · rcases hk with rfl | ⟨a, e, rfl⟩
    · exact hb.size
    · exact hge a e
  · have := Blk.new w1 78 #[.slice A1 (0 + n) c1, .int .i64 0, .int .i64 0]
    rw [Nat.zero_add] at this
    rw [LN.out]
    simpa using this
  · rw [LN.out]; exact hcap
  · have h5 := H4.out
    rw [Nat.zero_add, List.nil_append] at h5
    rw [LN.out]
    exact h5.alloc _
end Go.Proofs.Ytjnaooiklcbemaa.Wr
