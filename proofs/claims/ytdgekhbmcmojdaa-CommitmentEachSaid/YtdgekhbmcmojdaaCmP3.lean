/-
  More of the plain law of commitments: what a digest binds; the states of the chapter's examples and of the law of one party. No conditions.
-/
import Derived.Test.YtdgekhbmcmojdaaCmP2
namespace Go.Proofs.Ytdgekhbmcmojdaa.Cm
open Go Go.RowKit Go.Proofs.Ytdgekhbmcmojdaa.Dg Go.Proofs.Ytdgekhbmcmojdaa.Mp Go.Proofs.Ytdgekhbmcmojdaa.Mem

theorem xor_self_iff {a t : Int} (ha : U64 a) (ht : U64 t) : bits .xor .u64 a t = a ↔ t = 0 := by
  have h0 : U64 0 := by unfold U64; omega
  have e : bits .xor .u64 a 0 = a := by rw [xor_u64, show ofI 0 = 0#64 from rfl, BitVec.xor_zero, toI_ofI ha]
  constructor
  · intro h
    exact (xor_right_inj (c := a) ht h0).1 (h.trans e.symm)
  · rintro rfl
    exact e
theorem digI_val {p v v' n : Int} (hv : U64 v) (hv' : U64 v') : digI p v n = digI p v' n ↔ v = v' := by
  unfold digI
  rw [mixI_inj (xor_is_u64 _ _) (xor_is_u64 _ _), xor_right_inj (wrap_is_u64 _) (wrap_is_u64 _), add_left_inj hv hv']
theorem digI_nonce {p v n n' : Int} (hn : U64 n) (hn' : U64 n') : digI p v n = digI p v n' ↔ n = n' := by
  unfold digI
  rw [mixI_inj (xor_is_u64 _ _) (xor_is_u64 _ _), xor_left_inj (mixI_u64 _) (mixI_u64 _), mixI_inj hn hn']

/-! ### the examples -/
def a0 : St := ⟨3, 2, false, [], []⟩
def a1 (d1 : Int) : St := ⟨3, 2, false, [(1, d1)], []⟩
def a2 (d1 d3 : Int) : St := ⟨3, 2, false, [(1, d1), (3, d3)], []⟩
def a3 (d1 d3 : Int) : St := ⟨3, 2, true, [(1, d1), (3, d3)], []⟩
def a4 (d1 d3 : Int) : St := ⟨3, 2, true, [(1, d1), (3, d3)], [(3, 7)]⟩
def a5 (d1 d3 : Int) : St := ⟨3, 2, true, [(1, d1), (3, d3)], [(3, 7), (1, 5)]⟩
section
variable {d1 d3 : Int}
theorem a0_ok : a0.ok := ⟨by decide, by decide, fun p hp => by simp [a0] at hp, fun p hp => by simp [a0] at hp, by decide, by decide⟩
theorem acs (h1 : U64 d1) (h3 : U64 d3) : ∀ p ∈ ([(1, d1), (3, d3)] : List (Int × Int)), (1 ≤ p.1 ∧ p.1 ≤ 3) ∧ U64 p.2 := by
  intro p hp
  simp at hp
  rcases hp with rfl | rfl
  · exact ⟨by simp, h1⟩
  · exact ⟨by simp, h3⟩
theorem a2_ok (h1 : U64 d1) (h3 : U64 d3) : (a2 d1 d3).ok := ⟨by simp [a2], by simp [a2], acs h1 h3, fun p hp => by simp [a2] at hp, by simp [a2], by simp [a2]⟩
theorem a3_ok (h1 : U64 d1) (h3 : U64 d3) : (a3 d1 d3).ok := ⟨by simp [a3], by simp [a3], acs h1 h3, fun p hp => by simp [a3] at hp, by simp [a3], by simp [a3]⟩
theorem a4_ok (h1 : U64 d1) (h3 : U64 d3) : (a4 d1 d3).ok := ⟨by simp [a4], by simp [a4], acs h1 h3, fun p hp => by
  simp [a4] at hp
  subst hp
  exact ⟨by simp [a4], by unfold U64; simp⟩, by simp [a4], by simp [a4]⟩
theorem a5_ok (h1 : U64 d1) (h3 : U64 d3) : (a5 d1 d3).ok := ⟨by simp [a5], by simp [a5], acs h1 h3, fun p hp => by
  simp [a5] at hp
  rcases hp with rfl | rfl
  · exact ⟨by simp [a5], by unfold U64; simp⟩
  · exact ⟨by simp [a5], by unfold U64; simp⟩, by simp [a5], by simp [a5]⟩
theorem a0_com : comE a0 1 = 0 ∧ com a0 1 d1 = a1 d1 := ⟨rfl, rfl⟩
theorem a1_com : comE (a1 d1) 3 = 0 ∧ com (a1 d1) 3 d3 = a2 d1 d3 := ⟨rfl, rfl⟩
theorem a2_com : comE (a2 d1 d3) 1 = 6 ∧ com (a2 d1 d3) 1 0 = a2 d1 d3 := ⟨rfl, rfl⟩
theorem a2_com4 : comE (a2 d1 d3) 4 = 2 ∧ com (a2 d1 d3) 4 0 = a2 d1 d3 := ⟨rfl, rfl⟩
theorem a0_missing : missing a0 = [1, 2, 3] := rfl
theorem a2_missing : missing (a2 d1 d3) = [2] := rfl
theorem a0_seed : seed a0 = 0 ∧ seedE a0 = 8 := ⟨rfl, rfl⟩
theorem a2_lock : lockE (a2 d1 d3) = 0 ∧ lock (a2 d1 d3) = a3 d1 d3 := ⟨rfl, rfl⟩
theorem a3_lock : lockE (a3 d1 d3) = 8 ∧ lock (a3 d1 d3) = a3 d1 d3 := ⟨rfl, rfl⟩
theorem rev_of {s s' : St} {p v n e : Int} (h : revE s p v n = e) (h' : (if e = 0 then (⟨s.n, s.q, s.lock, s.cs, s.rs ++ [(p, v)]⟩ : St) else s) = s') : revE s p v n = e ∧ rev s p v n = s' := ⟨h, by unfold rev; rw [h]; exact h'⟩
theorem a3_rev (h : digI 3 7 8 = d3) : revE (a3 d1 d3) 3 7 8 = 0 ∧ rev (a3 d1 d3) 3 7 8 = a4 d1 d3 := rev_of (by simp [revE, a3, inP, findK, h]) rfl
theorem a4_twice : revE (a4 d1 d3) 3 7 8 = 6 ∧ rev (a4 d1 d3) 3 7 8 = a4 d1 d3 := rev_of (by simp [revE, a4, inP, findK]) rfl
theorem a4_two : revE (a4 d1 d3) 2 0 0 = 5 ∧ rev (a4 d1 d3) 2 0 0 = a4 d1 d3 := rev_of (by simp [revE, a4, inP, findK]) rfl
theorem a4_wrong (h : ¬ digI 1 6 6 = d1) : revE (a4 d1 d3) 1 6 6 = 15 ∧ rev (a4 d1 d3) 1 6 6 = a4 d1 d3 := rev_of (by simp [revE, a4, inP, findK, h]) rfl
theorem a4_one (h : digI 1 5 6 = d1) : revE (a4 d1 d3) 1 5 6 = 0 ∧ rev (a4 d1 d3) 1 5 6 = a5 d1 d3 := rev_of (by simp [revE, a4, inP, findK, h]) rfl
theorem a4_seed : seed (a4 d1 d3) = 0 ∧ seedE (a4 d1 d3) = 23 := ⟨rfl, rfl⟩
theorem a5_seed : seed (a5 d1 d3) = mixI (bits .xor .u64 (mixI 5) 7) ∧ seedE (a5 d1 d3) = 0 := by
  have e : seedE (a5 d1 d3) = 0 := rfl
  refine ⟨?_, e⟩
  unfold seed
  rw [if_pos e]
  have z : bits .xor .u64 0 5 = 5 := by decide +kernel
  show mixI (bits .xor .u64 (mixI (bits .xor .u64 0 5)) 7) = _
  rw [z]
end
theorem one_wrong : ¬ digI 1 6 6 = digI 1 5 6 := by
  rw [digI_val (by unfold U64; omega) (by unfold U64; omega)]
  decide

/-! ### one party of eight -/
def b0 : St := ⟨8, 1, false, [], []⟩
def b1 (k d : Int) : St := ⟨8, 1, false, [(k, d)], []⟩
def b2 (k d : Int) : St := ⟨8, 1, true, [(k, d)], []⟩
def b3 (k d v : Int) : St := ⟨8, 1, true, [(k, d)], [(k, v)]⟩
section
variable {k d v n : Int}
theorem b2_ok (h1 : 1 ≤ k) (h2 : k ≤ 8) (hd : U64 d) : (b2 k d).ok := ⟨by simp [b2], by simp [b2], fun p hp => by
  simp [b2] at hp
  subst hp
  exact ⟨⟨h1, h2⟩, hd⟩, fun p hp => by simp [b2] at hp, by simp [b2], by simp [b2]⟩
theorem b3_ok (h1 : 1 ≤ k) (h2 : k ≤ 8) (hd : U64 d) (hv : U64 v) : (b3 k d v).ok := ⟨by simp [b3], by simp [b3], fun p hp => by
  simp [b3] at hp
  subst hp
  exact ⟨⟨h1, h2⟩, hd⟩, fun p hp => by
  simp [b3] at hp
  subst hp
  exact ⟨⟨h1, h2⟩, hv⟩, by simp [b3], by simp [b3]⟩
theorem b0_com (h1 : 1 ≤ k) (h2 : k ≤ 8) : comE b0 k = 0 ∧ com b0 k d = b1 k d := by
  have e : comE b0 k = 0 := by
    unfold comE
    rw [if_pos (inP_of h1 h2)]
    rfl
  exact ⟨e, by unfold com; rw [if_pos e]; rfl⟩
theorem b1_lock : lockE (b1 k d) = 0 ∧ lock (b1 k d) = b2 k d := ⟨rfl, rfl⟩
theorem b2_rev (h1 : 1 ≤ k) (h2 : k ≤ 8) (h : digI k v n = d) : revE (b2 k d) k v n = 0 ∧ rev (b2 k d) k v n = b3 k d v := rev_of (by
  unfold revE
  rw [if_pos (inP_of h1 h2)]
  simp [b2, findK, h]) rfl
theorem b2_wrong (h1 : 1 ≤ k) (h2 : k ≤ 8) (h : ¬ digI k v n = d) : revE (b2 k d) k v n = 15 ∧ rev (b2 k d) k v n = b2 k d := rev_of (by
  unfold revE
  rw [if_pos (inP_of h1 h2)]
  simp [b2, findK, h]) rfl
theorem b2_missing (h1 : 1 ≤ k) (h2 : k ≤ 8) : missing (b2 k d) = [k] := by
  rcases (by omega : k = 1 ∨ k = 2 ∨ k = 3 ∨ k = 4 ∨ k = 5 ∨ k = 6 ∨ k = 7 ∨ k = 8) with rfl | rfl | rfl | rfl | rfl | rfl | rfl | rfl <;> rfl
theorem b3_missing (h1 : 1 ≤ k) (h2 : k ≤ 8) : missing (b3 k d v) = [] := by
  rcases (by omega : k = 1 ∨ k = 2 ∨ k = 3 ∨ k = 4 ∨ k = 5 ∨ k = 6 ∨ k = 7 ∨ k = 8) with rfl | rfl | rfl | rfl | rfl | rfl | rfl | rfl <;> rfl
end
end Go.Proofs.Ytdgekhbmcmojdaa.Cm
