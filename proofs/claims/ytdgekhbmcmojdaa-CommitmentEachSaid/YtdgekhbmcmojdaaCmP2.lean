/-
  More of the plain law of commitments: where a key stands in a list, and lists of pairs and triples as cells. No conditions.
-/
import Derived.Test.YtdgekhbmcmojdaaCmPlain
namespace Go.Proofs.Ytdgekhbmcmojdaa.Cm
open Go Go.RowKit Go.Proofs.Ytdgekhbmcmojdaa.Dg Go.Proofs.Ytdgekhbmcmojdaa.Mp Go.Proofs.Ytdgekhbmcmojdaa.Mem

def posK : List (Int × Int) → Int → Nat → Int
  | [], _, _ => -1
  | p :: l, k, i => if p.1 = k then (i : Int) else posK l k (i + 1)
theorem posK_none {l : List (Int × Int)} {k : Int} (h : findK l k = none) : ∀ i, posK l k i = -1 := by
  induction l with
  | nil => intro i; rfl
  | cons p l ih =>
    intro i
    rw [findK_cons] at h
    by_cases e : p.1 = k
    · rw [if_pos e] at h; cases h
    · rw [if_neg e] at h
      rw [posK, if_neg e]
      exact ih h _
theorem posK_some {l : List (Int × Int)} {k v : Int} (h : findK l k = some v) : ∀ i, ∃ j : Nat, posK l k i = ((i + j : Nat) : Int) ∧ l[j]? = some (k, v) := by
  induction l with
  | nil => cases h
  | cons p l ih =>
    intro i
    rw [findK_cons] at h
    by_cases e : p.1 = k
    · rw [if_pos e] at h
      injection h with h
      refine ⟨0, by rw [posK, if_pos e]; rfl, ?_⟩
      rw [← e, ← h]
      rfl
    · rw [if_neg e] at h
      obtain ⟨j, h1, h2⟩ := ih h (i + 1)
      refine ⟨j + 1, by rw [posK, if_neg e, h1]; omega, ?_⟩
      simpa using h2
/-- what the loop has left to look at. -/
theorem posK_drop {l : List (Int × Int)} {k : Int} {j : Nat} {p : Int × Int} (h : l[j]? = some p) : posK (l.drop j) k j = if p.1 = k then (j : Int) else posK (l.drop (j + 1)) k (j + 1) := by
  obtain ⟨hj, e⟩ := List.getElem?_eq_some_iff.1 h
  rw [List.drop_eq_getElem_cons hj, posK, e]
theorem posK_end {l : List (Int × Int)} {k : Int} {j : Nat} (h : l.length ≤ j) : posK (l.drop j) k j = -1 := by
  rw [List.drop_of_length_le h]
  rfl

/-! ### pairs and triples as cells -/
def cells2 (l : List (Int × Int)) : List Value := l.flatMap fun p => [.int .i64 p.1, .int .u64 p.2]
def cells3 (l : List (Int × Int × Int)) : List Value := l.flatMap fun p => [.int .i64 p.1, .int .u64 p.2.1, .int .u64 p.2.2]
theorem cells2_len (l : List (Int × Int)) : (cells2 l).length = l.length * 2 := by
  induction l with
  | nil => rfl
  | cons p l ih =>
    have e : cells2 (p :: l) = [.int .i64 p.1, .int .u64 p.2] ++ cells2 l := rfl
    rw [e, List.length_append, ih]
    simp only [List.length_cons, List.length_nil]
    omega
theorem cells3_len (l : List (Int × Int × Int)) : (cells3 l).length = l.length * 3 := by
  induction l with
  | nil => rfl
  | cons p l ih =>
    have e : cells3 (p :: l) = [.int .i64 p.1, .int .u64 p.2.1, .int .u64 p.2.2] ++ cells3 l := rfl
    rw [e, List.length_append, ih]
    simp only [List.length_cons, List.length_nil]
    omega
theorem cells2_at : ∀ {l : List (Int × Int)} {k : Nat} {p : Int × Int}, l[k]? = some p → (cells2 l)[k * 2]? = some (.int .i64 p.1) ∧ (cells2 l)[k * 2 + 1]? = some (.int .u64 p.2)
  | [], k, p, h => by cases h
  | q :: l, 0, p, h => by
    have e : q = p := by simpa using h
    subst e
    exact ⟨rfl, rfl⟩
  | q :: l, k + 1, p, h => by
    have h2 := cells2_at (l := l) (k := k) (p := p) (by simpa using h)
    have e : cells2 (q :: l) = .int .i64 q.1 :: .int .u64 q.2 :: cells2 l := rfl
    rw [e, show (k + 1) * 2 = k * 2 + 1 + 1 from by omega]
    exact ⟨by simpa using h2.1, by simpa using h2.2⟩
theorem cells3_at : ∀ {l : List (Int × Int × Int)} {k : Nat} {p : Int × Int × Int}, l[k]? = some p → (cells3 l)[k * 3]? = some (.int .i64 p.1) ∧ (cells3 l)[k * 3 + 1]? = some (.int .u64 p.2.1)
  | [], k, p, h => by cases h
  | q :: l, 0, p, h => by
    have e : q = p := by simpa using h
    subst e
    exact ⟨rfl, rfl⟩
  | q :: l, k + 1, p, h => by
    have h2 := cells3_at (l := l) (k := k) (p := p) (by simpa using h)
    have e : cells3 (q :: l) = .int .i64 q.1 :: .int .u64 q.2.1 :: .int .u64 q.2.2 :: cells3 l := rfl
    rw [e, show (k + 1) * 3 = k * 3 + 1 + 1 + 1 from by omega]
    exact ⟨by simpa using h2.1, by simpa using h2.2⟩
theorem cells2_append (a b : List (Int × Int)) : cells2 (a ++ b) = cells2 a ++ cells2 b := by simp [cells2]
theorem cells3_append (a b : List (Int × Int × Int)) : cells3 (a ++ b) = cells3 a ++ cells3 b := by simp [cells3]
theorem inP_of {s : St} {p : Int} (h1 : 1 ≤ p) (h2 : p ≤ s.n) : inP s p = true := by unfold inP; simp [h1, h2]
theorem inP_iff (s : St) (p : Int) : inP s p = true ↔ 1 ≤ p ∧ p ≤ s.n := by unfold inP; simp
theorem wf_i64 {p : Int} (h1 : -9223372036854775808 ≤ p) (h2 : p ≤ 9223372036854775807) : (Lit.int .i64 p).wf = true := WalkArith.wf_i64 ⟨h1, h2⟩
end Go.Proofs.Ytdgekhbmcmojdaa.Cm
