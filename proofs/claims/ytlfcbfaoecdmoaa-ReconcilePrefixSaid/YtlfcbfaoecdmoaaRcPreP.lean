/-
  The plain law of Locate: where two lists of records differ first. No conditions.
-/
import Derived.Test.YtlfcbfaoecdmoaaJrLoc2
import Derived.Test.YtlfcbfaoecdmoaaCut
namespace Go.Proofs.Ytlfcbfaoecdmoaa.Rc
open Go Go.RowKit Go.Proofs.Ytlfcbfaoecdmoaa.Mem Go.Proofs.Ytlfcbfaoecdmoaa.Jr

theorem beq_sym {α : Type} [BEq α] [LawfulBEq α] (a b : α) : (a == b) = (b == a) := by
  rw [Bool.eq_iff_iff]
  simp only [beq_iff_eq]
  exact ⟨Eq.symm, Eq.symm⟩
theorem dec_sym (a b : List Int) : decide (a = b) = decide (b = a) := by
  by_cases h : a = b
  · subst h; rfl
  · rw [decide_eq_false h, decide_eq_false (fun e => h e.symm)]
theorem same_sym (r s : Rec) : r.same s = s.same r := by
  unfold Rec.same
  rw [beq_sym r.k0, beq_sym r.k1, beq_sym r.k2, beq_sym r.k3, beq_sym r.k4, beq_sym r.name.toList, beq_sym r.text.toList, dec_sym r.nums, beq_sym r.key, beq_sym r.nonce, beq_sym r.ticket.toList, dec_sym r.amts]
theorem same_self (r : Rec) : r.same r = true := by simp [Rec.same]
theorem differ_sym (rs ss : List Rec) (k : Nat) : Jr.differ rs ss k = Jr.differ ss rs k := by
  unfold Jr.differ
  cases h1 : rs[k]? <;> cases h2 : ss[k]? <;> simp [same_sym]
theorem differ_in {rs ss : List Rec} {k : Nat} (h1 : k < rs.length) (h2 : k < ss.length) : Jr.differ rs ss k = if rs[k].same ss[k] = true then 0 else 29 := by
  unfold Jr.differ
  rw [List.getElem?_eq_getElem h1, List.getElem?_eq_getElem h2]
theorem differ_off {rs ss : List Rec} {k : Nat} (h : rs.length ≤ k ∨ ss.length ≤ k) : Jr.differ rs ss k = 28 := by
  unfold Jr.differ
  rcases h with h | h
  · rw [List.getElem?_eq_none h]
  · rw [List.getElem?_eq_none h]
    split
    · rename_i _ e; cases e
    · rfl
theorem locG_sym (rs ss : List Rec) : ∀ (f k : Nat), locG rs ss k f = locG ss rs k f
  | 0, _ => rfl
  | f + 1, k => by
    rw [locG, locG, differ_sym rs ss k, locG_sym rs ss f]
theorem loc_sym (rs ss : List Rec) : loc ss rs = loc rs ss := by
  unfold loc
  rw [locG_sym ss rs, Nat.max_comm]
theorem locG_none {rs ss : List Rec} : ∀ (f k : Nat), (∀ i, k ≤ i → i < k + f → Jr.differ rs ss i = 0) → locG rs ss k f = (-1, 0)
  | 0, _, _ => rfl
  | f + 1, k, h => by
    rw [locG_same (h k (Nat.le_refl _) (by omega))]
    exact locG_none f (k + 1) fun i h1 h2 => h i (by omega) (by omega)
theorem locG_first {rs ss : List Rec} {j : Nat} (hj : Jr.differ rs ss j ≠ 0) : ∀ (f k : Nat), k ≤ j → j < k + f → (∀ i, k ≤ i → i < j → Jr.differ rs ss i = 0) → locG rs ss k f = ((j : Int), Jr.differ rs ss j)
  | 0, k, h1, h2, _ => absurd h2 (by omega)
  | f + 1, k, h1, h2, h => by
    by_cases e : k = j
    · subst e
      exact locG_other hj
    · rw [locG_same (h k (Nat.le_refl _) (by omega))]
      exact locG_first hj f (k + 1) (by omega) (by omega) fun i h3 h4 => h i (by omega) h4
theorem loc_self (rs : List Rec) : loc rs rs = (-1, 0) := by
  unfold loc
  refine locG_none _ _ fun i _ h => ?_
  have h2 : i < rs.length := by omega
  rw [differ_in h2 h2, if_pos (same_self _)]
theorem loc_take {rs : List Rec} {k : Nat} (h : k < rs.length) : loc (rs.take k) rs = ((k : Int), 28) := by
  have hd : Jr.differ (rs.take k) rs k = 28 := differ_off (.inl (by simp; omega))
  unfold loc
  have := locG_first (rs := rs.take k) (ss := rs) (j := k) (by rw [hd]; decide) (max (rs.take k).length rs.length) 0 (Nat.zero_le _) (by simp; omega) (fun i _ hi => by
    have h1 : i < (rs.take k).length := by simp; omega
    have h2 : i < rs.length := by omega
    rw [differ_in h1 h2, if_pos (by rw [List.getElem_take]; exact same_self _)])
  rw [this, hd]
theorem loc_whole {rs : List Rec} {k : Nat} (h : rs.length ≤ k) : loc (rs.take k) rs = (-1, 0) := by
  rw [List.take_of_length_le h]
  exact loc_self rs
theorem first_of (p : Nat → Prop) : ∀ n, (∀ i, i < n → p i) ∨ ∃ j, j < n ∧ ¬ p j ∧ ∀ i, i < j → p i
  | 0 => .inl fun i h => absurd h (by omega)
  | n + 1 => by
    rcases first_of p n with h | ⟨j, h1, h2, h3⟩
    · by_cases hp : p n
      · exact .inl fun i hi => by
          rcases Nat.lt_or_ge i n with g | g
          · exact h i g
          · obtain rfl : i = n := by omega
            exact hp
      · exact .inr ⟨n, by omega, hp, h⟩
    · exact .inr ⟨j, by omega, h2, h3⟩
def SameTo (rs ss : List Rec) (k : Nat) : Prop := ∀ i, i < k → ∃ r s, rs[i]? = some r ∧ ss[i]? = some s ∧ r.same s = true
theorem same_of_differ {rs ss : List Rec} {i : Nat} (h : Jr.differ rs ss i = 0) : ∃ r s, rs[i]? = some r ∧ ss[i]? = some s ∧ r.same s = true := by
  unfold Jr.differ at h
  cases h1 : rs[i]? with
  | none => rw [h1] at h; simp at h
  | some r =>
    cases h2 : ss[i]? with
    | none => rw [h1, h2] at h; simp at h
    | some s =>
      rw [h1, h2] at h
      refine ⟨r, s, rfl, rfl, ?_⟩
      cases hs : r.same s with
      | true => rfl
      | false => simp [hs] at h
theorem loc_cases (rs ss : List Rec) : (loc rs ss = (-1, 0) ∧ rs.length = ss.length ∧ SameTo rs ss rs.length) ∨
    (∃ k : Nat, loc rs ss = ((k : Int), 29) ∧ k < rs.length ∧ k < ss.length ∧ SameTo rs ss k ∧ ∃ r s, rs[k]? = some r ∧ ss[k]? = some s ∧ r.same s = false) ∨
    (∃ k : Nat, loc rs ss = ((k : Int), 28) ∧ rs.length ≠ ss.length ∧ k = min rs.length ss.length ∧ SameTo rs ss k) := by
  rcases first_of (fun i => Jr.differ rs ss i = 0) (max rs.length ss.length) with h | ⟨j, h1, h2, h3⟩
  · refine .inl ⟨locG_none _ _ fun i _ hi => h i (by omega), ?_, fun i hi => same_of_differ (h i (by omega))⟩
    rcases Nat.lt_trichotomy rs.length ss.length with g | g | g
    · have := h rs.length (by omega)
      rw [differ_off (.inl (Nat.le_refl _))] at this
      cases this
    · exact g
    · have := h ss.length (by omega)
      rw [differ_off (.inr (Nat.le_refl _))] at this
      cases this
  · have hl : loc rs ss = ((j : Int), Jr.differ rs ss j) := locG_first h2 _ 0 (Nat.zero_le _) (by omega) fun i _ hi => h3 i hi
    have hs : SameTo rs ss j := fun i hi => same_of_differ (h3 i hi)
    by_cases hin : j < rs.length ∧ j < ss.length
    · have hd := differ_in hin.1 hin.2
      cases hq : rs[j].same ss[j] with
      | true => rw [hq] at hd; exact absurd hd h2
      | false =>
        rw [hq] at hd
        refine .inr (.inl ⟨j, by rw [hl, hd]; rfl, hin.1, hin.2, hs, _, _, List.getElem?_eq_getElem hin.1, List.getElem?_eq_getElem hin.2, hq⟩)
    · have hd : Jr.differ rs ss j = 28 := differ_off (by omega)
      refine .inr (.inr ⟨j, by rw [hl, hd], ?_, ?_, hs⟩)
      · rcases Nat.lt_trichotomy rs.length ss.length with g | g | g <;> omega
      · have h5 : j ≤ min rs.length ss.length := by
          rcases Nat.lt_or_ge (min rs.length ss.length) j with g | g
          · obtain ⟨r, s, e1, e2, _⟩ := hs _ g
            have g1 := (List.getElem?_eq_some_iff.1 e1).1
            have g2 := (List.getElem?_eq_some_iff.1 e2).1
            omega
          · exact g
        omega
/-- x[:hi] begins where x begins. -/
theorem run_cut_pre {P : Program} {t e : TypeId} {size : Nat} (ht : P.underlying t = some (.slice e)) (hsz : (P.info? e).map (·.size) = some size) (A : Option Addr) (n c hi : Nat) (h2 : hi ≤ c) :
    ∃ A2 c2, (∀ W, (cutAt t (.slice A n c) none (some (.int .i64 (hi : Int))) none).run P W = .ok (.slice A2 hi c2) W) ∧ ∀ a, A = some a → A2 = some a := by
  refine ⟨if c = 0 then A else A.map (·.add (0 * size)), c - 0, fun W => ?_, fun a ha => ?_⟩
  · have hu := elem_under ht
    rw [cutAt, run_sliceAt_slice _ _ _ _ _ _ hu, run_slice_h _ _ _ _ _ hu _ _ (by omega) (by omega), run_size ht hsz]
    simp [Result.andThen, sliced]
  · subst ha
    split
    · rfl
    · simp [Addr.add]
theorem recSl_take {w : World} {A A2 : Option Addr} {rs : List Rec} (k : Nat) (h : RecSl w A rs) (hA : ∀ a, A = some a → A2 = some a) : RecSl w A2 (rs.take k) := by
  intro i r hi
  rw [List.getElem?_take] at hi
  split at hi
  · obtain ⟨b, off, cs, e, r1⟩ := h i r hi
    exact ⟨b, off, cs, hA _ e, r1⟩
  · cases hi
theorem locate_v (rs ss : List Rec) (f1 f2 : Int) (hv : loc rs ss = (f1, f2)) (A B : Option Addr) (n m ca cb : Nat) (w : World) (hn : rs.length = n) (hm : ss.length = m) (ha : RecSl w A rs) (hb : RecSl w B ss) (h1 : n ≤ 9223372036854775807) (h2 : m ≤ 9223372036854775807) :
    Calls Try.prog 20 #[.slice A n ca, .slice B m cb] w fun e w' => e = .returned (.agg #[.int .i64 f1, .int .i64 f2]) ∧ Below w.heap.size w w' :=
  (locate_any rs ss A B n m ca cb w hn hm ha hb h1 h2).mono fun e w' ⟨he, hb⟩ => ⟨by rw [he, hv], hb⟩
theorem same_v (cs ds : Array Value) (r s : Rec) (q : Bool) (hq : r.same s = q) (w : World) (hr : IsRec w cs r) (hs : IsRec w ds s) :
    Calls Try.prog 22 #[.agg cs, .agg ds] w fun e w' => e = .returned (.bool q) ∧ Below w.heap.size w w' :=
  (same_any cs ds r s w hr hs).mono fun e w' ⟨he, hb⟩ => ⟨by rw [he, hq], hb⟩
end Go.Proofs.Ytlfcbfaoecdmoaa.Rc
