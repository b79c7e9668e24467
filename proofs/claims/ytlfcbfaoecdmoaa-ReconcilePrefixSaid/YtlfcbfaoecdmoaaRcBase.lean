/-
  The walks of Fields and Names of package reconcile and of its reference. Conditions: the totals are a value.
-/
import Derived.Test.YtlfcbfaoecdmoaaEqs
namespace Go.Proofs.Ytlfcbfaoecdmoaa.Rc
open Go.RowKit Go.Proofs.Ytlfcbfaoecdmoaa.Mem Go.Proofs.Ytlfcbfaoecdmoaa.Eqs

/-- totals, by the numbers of their fields. -/
abbrev tot (f : Nat → Int) : Value := .agg #[.int .i64 (f 0), .int .i64 (f 1), .int .i64 (f 2), .int .i64 (f 3), .int .i64 (f 4), .int .i64 (f 5), .int .i64 (f 6), .int .i64 (f 7), .int .i64 (f 8), .int .i64 (f 9), .int .i64 (f 10), .int .i64 (f 11), .int .i64 (f 12), .int .i64 (f 13), .int .i64 (f 14), .int .i64 (f 15), .int .i64 (f 16)]
def flist (f : Nat → Int) : List Int := [f 0, f 1, f 2, f 3, f 4, f 5, f 6, f 7, f 8, f 9, f 10, f 11, f 12, f 13, f 14, f 15, f 16]
def nameL : List ByteArray := [⟨#[115, 97, 108, 101, 115]⟩, ⟨#[99, 97, 110, 99, 101, 108, 115]⟩, ⟨#[97, 100, 100, 111, 110, 115]⟩, ⟨#[105, 110, 115, 116, 97, 110, 116, 115]⟩, ⟨#[114, 101, 116, 117, 114, 110, 115]⟩, ⟨#[102, 117, 110, 100, 115]⟩, ⟨#[114, 101, 115, 101, 114, 118, 101]⟩, ⟨#[112, 114, 105, 122, 101, 115]⟩, ⟨#[99, 97, 114, 114, 105, 101, 100]⟩, ⟨#[98, 114, 101, 97, 107, 97, 103, 101]⟩, ⟨#[99, 108, 97, 105, 109, 101, 100]⟩, ⟨#[101, 120, 112, 105, 114, 101, 100]⟩, ⟨#[116, 97, 120]⟩, ⟨#[111, 102, 102, 115, 101, 116]⟩, ⟨#[110, 101, 116]⟩, ⟨#[99, 111, 109, 109, 105, 115, 115, 105, 111, 110]⟩, ⟨#[100, 117, 101]⟩]
theorem nameL_len : nameL.length = 17 := rfl
theorem flist_len (f : Nat → Int) : (flist f).length = 17 := rfl
theorem flist_at (f : Nat → Int) (k : Nat) (h : k < 17) : (flist f)[k]'(by rw [flist_len]; exact h) = f k := by
  match k, h with
  | 0, _ => rfl
  | 1, _ => rfl
  | 2, _ => rfl
  | 3, _ => rfl
  | 4, _ => rfl
  | 5, _ => rfl
  | 6, _ => rfl
  | 7, _ => rfl
  | 8, _ => rfl
  | 9, _ => rfl
  | 10, _ => rfl
  | 11, _ => rfl
  | 12, _ => rfl
  | 13, _ => rfl
  | 14, _ => rfl
  | 15, _ => rfl
  | 16, _ => rfl
  | k + 17, h => exact absurd h (by omega)
/-- a call that hands back a new list, and writes nothing that was there. -/
def RetL (n : Nat) (xs : List Value) (w : World) (e : Ending) (w' : World) : Prop := ∃ A c, e = .returned (.slice A n c) ∧ Sl w' 1 A n xs ∧ Below w.heap.size w w'
theorem new_row (w : World) (cs : List Value) (t : TypeId) (n g : Nat) (hn : cs.length = n) (hg : g = w.heap.size) : Sl (w.alloc (.cells cs.toArray t)) 1 (some ⟨g, 0, none⟩) n cs :=
  ⟨by simpa using hn, fun _ => ⟨_, 0, rfl, fun j u hu => by rw [hg, World.cell?_alloc_mark]; simpa using hu⟩⟩

set_option maxHeartbeats 1000000 in
theorem fields_any (f : Nat → Int) (w : World) : Calls Try.prog 10 #[tot f] w (RetL 17 (ints (flist f)) w) := by
  go_enter Try.func10, Try.ntmps10
  go_wp2
  go_ret
  exact ⟨_, _, rfl, new_row _ (ints (flist f)) _ 17 _ rfl (by simp), ((Below.refl _ _).alloc (Nat.le_refl _) _).alloc (by simp) _⟩

set_option maxHeartbeats 1000000 in
theorem fieldsR_any (f : Nat → Int) (w : World) : Calls Try.prog 11 #[tot f] w (RetL 17 (ints (flist f)) w) := by
  go_enter Try.func11, Try.ntmps11
  go_wp2
  go_ret
  exact ⟨_, _, rfl, new_row _ (ints (flist f)) _ 17 _ rfl (by simp), ((Below.refl _ _).alloc (Nat.le_refl _) _).alloc (by simp) _⟩

set_option maxHeartbeats 1000000 in
theorem names_any (w : World) : Calls Try.prog 13 #[] w (RetL 17 (strs nameL) w) := by
  go_enter Try.func13, Try.ntmps13
  go_wp2
  go_ret
  exact ⟨_, _, rfl, new_row _ (strs nameL) _ 17 _ rfl rfl, (Below.refl _ _).alloc (Nat.le_refl _) _⟩

set_option maxHeartbeats 1000000 in
theorem namesR_any (w : World) : Calls Try.prog 14 #[] w (RetL 17 (strs nameL) w) := by
  go_enter Try.func14, Try.ntmps14
  go_wp2
  go_ret
  exact ⟨_, _, rfl, new_row _ (strs nameL) _ 17 _ rfl rfl, (Below.refl _ _).alloc (Nat.le_refl _) _⟩
end Go.Proofs.Ytlfcbfaoecdmoaa.Rc
