/-
  The plain law of run: all parties commit themselves in one order, some open their values in another; the seed. No conditions.
-/
import Derived.Test.YtdgekhbmcmojdaaCmP3
namespace Go.Proofs.Ytdgekhbmcmojdaa.Cm
open Go Go.RowKit Go.Proofs.Ytdgekhbmcmojdaa.Dg Go.Proofs.Ytdgekhbmcmojdaa.Mp Go.Proofs.Ytdgekhbmcmojdaa.Mem

/-- the i-th party from f on. -/
def pI (n f i : Nat) : Nat := if i + f < n then i + f else i + f - n
theorem pI_lt {n f i : Nat} (hf : f < n) (hi : i < n) : pI n f i < n := by unfold pI; split <;> omega
theorem pI_inj {n f i j : Nat} (_hf : f < n) (hi : i < n) (hj : j < n) (h : i ≠ j) : pI n f i ≠ pI n f j := by unfold pI; split <;> split <;> omega
theorem pI_sur {n f k : Nat} (hf : f < n) (hk : k < n) : ∃ i, i < n ∧ pI n f i = k := by
  by_cases h : f ≤ k
  · exact ⟨k - f, by omega, by unfold pI; rw [if_pos (by omega)]; omega⟩
  · exact ⟨k + n - f, by omega, by unfold pI; rw [if_neg (by omega)]; omega⟩
theorem pI_mod {n f i : Nat} (hf : f < n) (hi : i < n) : ((i : Int) + (f : Int)).tmod (n : Int) = (pI n f i : Int) := by
  rw [Int.tmod_eq_emod_of_nonneg (by omega)]
  unfold pI
  split
  · rw [Int.emod_eq_of_lt (by omega) (by omega)]
    omega
  · have : (i : Int) + (f : Int) = ((i + f - n : Nat) : Int) + (n : Int) := by omega
    rw [this, Int.add_emod_right, Int.emod_eq_of_lt (by omega) (by omega)]
/-- what stands in a list behind i steps of the order a. -/
def lst (a : Nat → Nat) (op : Nat → Bool) (X : Nat → Int) : Nat → List (Int × Int)
  | 0 => []
  | i + 1 => lst a op X i ++ (if op (a i) = true then [((a i : Int) + 1, X (a i))] else [])
section
variable {a : Nat → Nat} {op : Nat → Bool} {X : Nat → Int} {n : Nat}
theorem lst_none (hi : ∀ i j, i < j → j < n → a i ≠ a j) : ∀ (i k : Nat), i ≤ n → (∀ j, j < i → a j ≠ k) → findK (lst a op X i) ((k : Int) + 1) = none
  | 0, _, _, _ => rfl
  | i + 1, k, hn, h => by
    have h1 := lst_none hi i k (by omega) (fun j hj => h j (by omega))
    rw [lst]
    split
    · have h2 := lst_none hi i (a i) (by omega) (fun j hj => hi j i hj (by omega))
      rw [findK_snoc _ _ _ _ h2, if_neg (by have := h i (by omega); omega), h1]
    · rw [List.append_nil, h1]
theorem lst_some (hi : ∀ i j, i < j → j < n → a i ≠ a j) : ∀ (i k j : Nat), i ≤ n → j < i → a j = k → findK (lst a op X i) ((k : Int) + 1) = if op k = true then some (X k) else none
  | i + 1, k, j, hn, hj, e => by
    have h2 := lst_none (op := op) (X := X) hi i (a i) (by omega) (fun j hj => hi j i hj (by omega))
    rw [lst]
    by_cases hji : j = i
    · subst hji e
      split
      · rw [findK_snoc _ _ _ _ h2, if_pos rfl]
      · rw [List.append_nil, h2]
    · have h1 := lst_some hi i k j (by omega) (by omega) e
      split
      · rw [findK_snoc _ _ _ _ h2, if_neg (by have := hi j i (by omega) (by omega); omega), h1]
      · rw [List.append_nil, h1]
theorem lst_len : ∀ i, (lst a op X i).length ≤ i
  | 0 => Nat.le_refl _
  | i + 1 => by
    have := lst_len i
    rw [lst, List.length_append]
    split <;> simp <;> omega
theorem lst_mem (ha : ∀ i, i < n → a i < n) (hX : ∀ k, k < n → U64 (X k)) : ∀ i, i ≤ n → ∀ p ∈ lst a op X i, (1 ≤ p.1 ∧ p.1 ≤ (n : Int)) ∧ U64 p.2
  | 0, _, p, hp => by cases hp
  | i + 1, hn, p, hp => by
    rw [lst] at hp
    rcases List.mem_append.1 hp with hp | hp
    · exact lst_mem ha hX i (by omega) p hp
    · split at hp
      · simp at hp
        subst hp
        have := ha i (by omega)
        exact ⟨⟨by show 1 ≤ (a i : Int) + 1; omega, by show (a i : Int) + 1 ≤ _; omega⟩, hX _ this⟩
      · cases hp
theorem lst_nil : ∀ i, (∀ j, j < i → op (a j) = false) → lst a op X i = []
  | 0, _ => rfl
  | i + 1, h => by
    rw [lst, lst_nil i (fun j hj => h j (by omega)), h i (by omega)]
    rfl
end
/-- the order in which they open: from the last one down. -/
def qI (n f i : Nat) : Nat := pI n f (n - 1 - i)
theorem qI_lt {n f i : Nat} (hf : f < n) (hi : i < n) : qI n f i < n := pI_lt hf (by omega)
theorem qI_inj {n f : Nat} (hf : f < n) (i j : Nat) (h : i < j) (hj : j < n) : qI n f i ≠ qI n f j := pI_inj hf (by omega) (by omega) (by omega)
theorem qI_sur {n f k : Nat} (hf : f < n) (hk : k < n) : ∃ i, i < n ∧ qI n f i = k := by
  obtain ⟨i, hi, e⟩ := pI_sur hf hk
  exact ⟨n - 1 - i, by omega, by unfold qI; rw [show n - 1 - (n - 1 - i) = i from by omega]; exact e⟩

/-- what party k + 1 commits to. -/
def dgK (vs : Nat → Int) (k : Nat) : Int := digI ((k : Int) + 1) (vs k) ((k : Int) + 1)
/-- behind i commitments; behind all commitments, the lock and i openings. -/
def cSt (n f : Nat) (vs : Nat → Int) (i : Nat) : St := ⟨n, 1, false, lst (pI n f) (fun _ => true) (dgK vs) i, []⟩
def lSt (n f : Nat) (vs : Nat → Int) (op : Nat → Bool) (i : Nat) : St := ⟨n, 1, true, lst (pI n f) (fun _ => true) (dgK vs) n, lst (qI n f) op vs i⟩
section
variable {n f i : Nat} {vs : Nat → Int} {op : Nat → Bool}
theorem cSt_com (hf : f < n) (hi : i < n) : comE (cSt n f vs i) ((pI n f i : Int) + 1) = 0 ∧ com (cSt n f vs i) ((pI n f i : Int) + 1) (dgK vs (pI n f i)) = cSt n f vs (i + 1) := by
  have hlt := pI_lt hf hi
  have hnone : findK (cSt n f vs i).cs ((pI n f i : Int) + 1) = none := lst_none (n := n) (fun i j h hj => pI_inj hf (by omega) hj (by omega)) i _ (by omega) (fun j hj => pI_inj hf (by omega) hi (by omega))
  have hin : inP (cSt n f vs i) ((pI n f i : Int) + 1) = true := inP_of (by omega) (by show (pI n f i : Int) + 1 ≤ (n : Int); omega)
  have e : comE (cSt n f vs i) ((pI n f i : Int) + 1) = 0 := by
    unfold comE
    rw [if_pos hin, hnone]
    rfl
  refine ⟨e, ?_⟩
  unfold com
  rw [if_pos e]
  show (⟨_, _, _, _, _⟩ : St) = ⟨_, _, _, lst (pI n f) (fun _ => true) (dgK vs) (i + 1), _⟩
  rw [lst, if_pos rfl]
  rfl
theorem lst_all_len {a : Nat → Nat} {X : Nat → Int} : ∀ i, (lst a (fun _ => true) X i).length = i
  | 0 => rfl
  | i + 1 => by rw [lst, if_pos rfl, List.length_append, lst_all_len i]; rfl
theorem cSt_lock (hn : 1 ≤ n) : lockE (cSt n f vs n) = 0 ∧ lock (cSt n f vs n) = lSt n f vs op 0 := by
  have e : lockE (cSt n f vs n) = 0 := by
    unfold lockE
    rw [if_neg (by simp [cSt]), if_neg]
    show ¬ (((lst (pI n f) (fun _ => true) (dgK vs) n).length : Nat) : Int) < 1
    rw [lst_all_len]
    omega
  exact ⟨e, by unfold lock; rw [if_pos e]; rfl⟩
theorem lSt_skip (h : op (qI n f i) = false) : lSt n f vs op (i + 1) = lSt n f vs op i := by
  unfold lSt
  rw [lst, h]
  simp
theorem lSt_rev (hf : f < n) (hi : i < n) (h : op (qI n f i) = true) : revE (lSt n f vs op i) ((qI n f i : Int) + 1) (vs (qI n f i)) ((qI n f i : Int) + 1) = 0 ∧ rev (lSt n f vs op i) ((qI n f i : Int) + 1) (vs (qI n f i)) ((qI n f i : Int) + 1) = lSt n f vs op (i + 1) := by
  have hlt := qI_lt hf hi
  have hnone : findK (lSt n f vs op i).rs ((qI n f i : Int) + 1) = none := lst_none (n := n) (fun i j h hj => qI_inj hf i j h hj) i _ (by omega) (fun j hj => qI_inj hf j i hj hi)
  obtain ⟨j, hj, ej⟩ := pI_sur hf hlt
  have hsome : findK (lSt n f vs op i).cs ((qI n f i : Int) + 1) = some (dgK vs (qI n f i)) := by
    have := lst_some (op := fun _ => true) (X := dgK vs) (n := n) (a := pI n f) (fun i j h hj => pI_inj hf (by omega) hj (by omega)) n (qI n f i) j (Nat.le_refl _) hj ej
    exact this.trans (if_pos rfl)
  have hin : inP (lSt n f vs op i) ((qI n f i : Int) + 1) = true := inP_of (by omega) (by show (qI n f i : Int) + 1 ≤ (n : Int); omega)
  refine rev_of ?_ ?_
  · unfold revE
    rw [if_pos hin, if_pos (show (lSt n f vs op i).lock = true from rfl), hsome, hnone]
    show (if _ then _ else if digI _ _ _ = dgK vs _ then _ else _) = _
    rw [if_neg (by simp), if_pos (show digI ((qI n f i : Int) + 1) (vs (qI n f i)) ((qI n f i : Int) + 1) = dgK vs (qI n f i) from rfl)]
  · rw [if_pos rfl]
    show (⟨_, _, _, _, _⟩ : St) = ⟨_, _, _, _, lst (qI n f) op vs (i + 1)⟩
    rw [lst, if_pos h]
    rfl
theorem lSt_ok (hf : f < n) (h8 : n ≤ 8) (hv : ∀ k, k < n → U64 (vs k)) (hi : i ≤ n) : (lSt n f vs op i).ok := by
  have h1 := lst_len (a := pI n f) (op := fun _ => true) (X := dgK vs) n
  have h2 := lst_len (a := qI n f) (op := op) (X := vs) i
  exact ⟨⟨by show (1 : Int) ≤ (n : Int); omega, by show (n : Int) ≤ 8; omega⟩, ⟨by show (1 : Int) ≤ 1; omega, by show (1 : Int) ≤ (n : Int); omega⟩,
    lst_mem (fun i h => pI_lt hf h) (fun k _ => digI_u64 _ _ _) n (Nat.le_refl _), lst_mem (fun i h => qI_lt hf h) hv i hi, by show (lst _ _ _ n).length ≤ 100; omega, by show (lst _ _ _ i).length ≤ 100; omega⟩
end
/-- the seed of the opened values in the order of the parties. -/
def seedP (vs : Nat → Int) (op : Nat → Bool) : Nat → Int
  | 0 => 0
  | k + 1 => if op k = true then mixI (bits .xor .u64 (seedP vs op k) (vs k)) else seedP vs op k
def anyP (op : Nat → Bool) : Nat → Bool
  | 0 => false
  | k + 1 => anyP op k || op k
theorem anyP_iff (op : Nat → Bool) : ∀ n, anyP op n = true ↔ ∃ k, k < n ∧ op k = true
  | 0 => by simp [anyP]
  | n + 1 => by
    rw [anyP, Bool.or_eq_true, anyP_iff op n]
    constructor
    · rintro (⟨k, h, e⟩ | h)
      · exact ⟨k, by omega, e⟩
      · exact ⟨n, by omega, h⟩
    · rintro ⟨k, h, e⟩
      by_cases hk : k = n
      · subst hk
        exact .inr e
      · exact .inl ⟨k, by omega, e⟩
theorem seedP_u64 (vs : Nat → Int) (op : Nat → Bool) : ∀ k, U64 (seedP vs op k)
  | 0 => by show U64 0; unfold U64; omega
  | k + 1 => by
    rw [seedP]
    split
    · exact mixI_u64 _
    · exact seedP_u64 vs op k
def runE (op : Nat → Bool) (n : Nat) : Int := if anyP op n = true then 0 else 23
def runS (vs : Nat → Int) (op : Nat → Bool) (n : Nat) : Int := if anyP op n = true then seedP vs op n else 0
theorem lSt_seed {n f : Nat} {vs : Nat → Int} {op : Nat → Bool} (hf : f < n) : seed (lSt n f vs op n) = runS vs op n ∧ seedE (lSt n f vs op n) = runE op n := by
  have hfk : ∀ k, k < n → findK (lSt n f vs op n).rs ((k : Int) + 1) = if op k = true then some (vs k) else none := fun k hk => by
    obtain ⟨j, hj, e⟩ := qI_sur hf hk
    exact lst_some (n := n) (fun i j h hj => qI_inj hf i j h hj) n k j (Nat.le_refl _) hj e
  have hs : ∀ k, k ≤ n → seedTo (lSt n f vs op n) k = seedP vs op k := by
    intro k
    induction k with
    | zero => intro _; rfl
    | succ k ih =>
      intro hk
      rw [seedTo, ih (by omega), show ((k + 1 : Nat) : Int) = (k : Int) + 1 from rfl, hfk k (by omega), seedP]
      split <;> rfl
  have hE : seedE (lSt n f vs op n) = runE op n := by
    unfold seedE runE
    rw [if_pos (show (lSt n f vs op n).lock = true from rfl)]
    by_cases ha : anyP op n = true
    · rw [if_pos ha, if_neg]
      obtain ⟨k, hk, e⟩ := (anyP_iff op n).1 ha
      have h1 := hfk k hk
      rw [if_pos e] at h1
      intro hlt
      have h0 : (lSt n f vs op n).rs.length = 0 := by
        have : ((lSt n f vs op n).rs.length : Int) < 1 := hlt
        omega
      rw [List.eq_nil_of_length_eq_zero h0] at h1
      cases h1
    · rw [if_neg ha, if_pos]
      have : (lSt n f vs op n).rs = [] := lst_nil n fun j hj => by
        cases ho : op (qI n f j) with
        | false => rfl
        | true => exact absurd ((anyP_iff op n).2 ⟨_, qI_lt hf hj, ho⟩) ha
      rw [this]
      show ((0 : Nat) : Int) < 1
      omega
  refine ⟨?_, hE⟩
  unfold seed runS
  rw [hE]
  unfold runE
  by_cases ha : anyP op n = true
  · rw [if_pos ha, if_pos ha, if_pos rfl]
    have := hs n (Nat.le_refl _)
    exact this
  · rw [if_neg ha, if_neg ha, if_neg (by omega)]
/-- every later step keeps two seeds apart. -/
theorem seedP_apart {vs us : Nat → Int} {op : Nat → Bool} {k : Nat} (hv : ∀ i, U64 (vs i)) (hu : ∀ i, U64 (us i)) (ho : op k = true) (he : ∀ i, i ≠ k → vs i = us i) : ∀ n, k < n → (seedP vs op n = seedP us op n ↔ vs k = us k)
  | n + 1, hk => by
    have same : ∀ m, m ≤ k → seedP vs op m = seedP us op m := by
      intro m
      induction m with
      | zero => intro _; rfl
      | succ m ih => intro hm; rw [seedP, seedP, ih (by omega), he m (by omega)]
    rw [seedP, seedP]
    by_cases hkn : k = n
    · subst hkn
      rw [if_pos ho, if_pos ho, same k (Nat.le_refl _), mixI_inj (xor_is_u64 _ _) (xor_is_u64 _ _), xor_right_inj (hv _) (hu _)]
    · have ih := seedP_apart hv hu ho he n (by omega)
      split
      · rw [he n (by omega), mixI_inj (xor_is_u64 _ _) (xor_is_u64 _ _), xor_left_inj (seedP_u64 _ _ _) (seedP_u64 _ _ _)]
        exact ih
      · exact ih
end Go.Proofs.Ytdgekhbmcmojdaa.Cm
