/-
  The plain law of commitments, with no program in sight: the state, what each call answers, and the seed. No conditions.
-/
import Derived.Test.YtdgekhbmcmojdaaDgPlain
import Derived.Test.YtdgekhbmcmojdaaMap
namespace Go.Proofs.Ytdgekhbmcmojdaa.Cm
open Go Go.Proofs.Ytdgekhbmcmojdaa.Dg Go.Proofs.Ytdgekhbmcmojdaa.Mp

/-- the state: parties, quorum, locked, (party, digest), (party, value). -/
structure St where
  n : Int
  q : Int
  lock : Bool
  cs : List (Int × Int)
  rs : List (Int × Int)
def digI (p v n : Int) : Int := mixI (bits .xor .u64 (mixI n) (IntKind.u64.wrap (v + IntKind.u64.wrap p)))
theorem digI_u64 (p v n : Int) : U64 (digI p v n) := mixI_u64 _
def inP (s : St) (p : Int) : Bool := decide (1 ≤ p) && decide (p ≤ s.n)
def comE (s : St) (p : Int) : Int := if inP s p = true then (if s.lock = true then 8 else if (findK s.cs p).isSome = true then 6 else 0) else 2
def com (s : St) (p d : Int) : St := if comE s p = 0 then ⟨s.n, s.q, s.lock, s.cs ++ [(p, d)], s.rs⟩ else s
def lockE (s : St) : Int := if s.lock = true then 8 else if (s.cs.length : Int) < s.q then 23 else 0
def lock (s : St) : St := if lockE s = 0 then ⟨s.n, s.q, true, s.cs, s.rs⟩ else s
def revE (s : St) (p v n : Int) : Int := if inP s p = true then (if s.lock = true then (match findK s.cs p with
    | none => 5
    | some d => if (findK s.rs p).isSome = true then 6 else if digI p v n = d then 0 else 15) else 8) else 2
def rev (s : St) (p v n : Int) : St := if revE s p v n = 0 then ⟨s.n, s.q, s.lock, s.cs, s.rs ++ [(p, v)]⟩ else s
def miss (s : St) (p : Int) : Bool := if s.lock = true then (findK s.cs p).isSome && !(findK s.rs p).isSome else !(findK s.cs p).isSome
/-- the parties up to k that are missing. -/
def missTo (s : St) : Nat → List Int
  | 0 => []
  | k + 1 => missTo s k ++ (if miss s ((k + 1 : Nat) : Int) = true then [((k + 1 : Nat) : Int)] else [])
def missing (s : St) : List Int := missTo s s.n.toNat
def seedStep (x : Int) : Option Int → Int
  | some v => mixI (bits .xor .u64 x v)
  | none => x
def seedTo (s : St) : Nat → Int
  | 0 => 0
  | k + 1 => seedStep (seedTo s k) (findK s.rs ((k + 1 : Nat) : Int))
def seedE (s : St) : Int := if s.lock = true then (if (s.rs.length : Int) < s.q then 23 else 0) else 8
def seed (s : St) : Int := if seedE s = 0 then seedTo s s.n.toNat else 0
theorem seedTo_u64 (s : St) : ∀ k, U64 (seedTo s k)
  | 0 => by show U64 0; unfold U64; omega
  | k + 1 => by
    rw [seedTo]
    unfold seedStep
    split
    · exact mixI_u64 _
    · exact seedTo_u64 s k
theorem missTo_len (s : St) : ∀ k, (missTo s k).length ≤ k
  | 0 => Nat.le_refl _
  | k + 1 => by
    have := missTo_len s k
    rw [missTo, List.length_append]
    split <;> simp <;> omega
/-- what stands in each list is a party's; each party stands once. -/
structure St.ok (s : St) : Prop where
  n : 1 ≤ s.n ∧ s.n ≤ 8
  q : 1 ≤ s.q ∧ s.q ≤ s.n
  cs : ∀ p ∈ s.cs, (1 ≤ p.1 ∧ p.1 ≤ s.n) ∧ U64 p.2
  rs : ∀ p ∈ s.rs, (1 ≤ p.1 ∧ p.1 ≤ s.n) ∧ U64 p.2
  cn : s.cs.length ≤ 100
  rn : s.rs.length ≤ 100
theorem findK_mem {l : List (Int × Int)} {k v : Int} (h : findK l k = some v) : (k, v) ∈ l := by
  induction l with
  | nil => cases h
  | cons p l ih =>
    rw [findK_cons] at h
    split at h
    · rename_i e
      injection h with h
      subst e h
      exact List.mem_cons_self ..
    · exact List.mem_cons_of_mem _ (ih h)
theorem findK_u64 {l : List (Int × Int)} {k v : Int} {n : Int} (hl : ∀ p ∈ l, (1 ≤ p.1 ∧ p.1 ≤ n) ∧ U64 p.2) (h : findK l k = some v) : U64 v := (hl _ (findK_mem h)).2
end Go.Proofs.Ytdgekhbmcmojdaa.Cm
