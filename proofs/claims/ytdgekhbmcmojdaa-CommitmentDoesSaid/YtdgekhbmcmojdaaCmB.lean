/-
  The two objects side by side, of package commitment and of the reference; the list of calls; what each call leaves. Conditions: the objects lie in memory.
-/
import Derived.Test.YtdgekhbmcmojdaaCmC
import Derived.Test.YtdgekhbmcmojdaaCmR3
namespace Go.Proofs.Ytdgekhbmcmojdaa.Cm
open Go.RowKit Go.Proofs.Ytdgekhbmcmojdaa.Mem Go.Proofs.Ytdgekhbmcmojdaa.Dg Go.Proofs.Ytdgekhbmcmojdaa.Mp

theorem exec_store_tx (ρ : Operand → Value) (dst : Option Tmp) (x y : Operand) (ty : TypeId) (pos : String) (after : Array Edge) (guard : Option (Nat × Bool)) :
    execOp ρ { dst, op := .store 39 x y, type := ty, pos, after, guard } = (do storeRow 39 (ρ x) (ρ y); pure .skip) := rfl
theorem store_tx {W : World} {g : Nat} {old cs : Array Value} (h : Blk W g 39 old) (ho : old.size = 2) (hs : cs.size = 2) (h1 : cs.toList.all (·.oneCell') = true) : (storeRow 39 (.pointer (some ⟨g, 0, none⟩)) (.agg cs)).run Try.prog W = .ok () (W.setRow g cs) := by
  unfold storeRow
  simp only [Instr.storeAt, Instr.sureAddr, Sem.run_bind, Sem.run_pure, Result.andThen_ok, run_storeVar_row W g 39 39 old cs h (size_tx.trans (congrArg some hs.symm)) (ho.trans hs.symm) (by rw [← Array.all_toList]; exact h1)]

/-! ### what each call leaves -/
section
variable {s : St} {p x n : Int} {i : Nat}
/-- a state behind i calls. -/
structure Fine (s : St) (i : Nat) : Prop where
  ok : s.ok
  c : s.cs.length ≤ i
  r : s.rs.length ≤ i
theorem Fine.more (h : Fine s i) : Fine s (i + 1) := ⟨h.ok, Nat.le_succ_of_le h.c, Nat.le_succ_of_le h.r⟩
theorem com_in (e : comE s p = 0) : inP s p = true := by
  unfold comE at e
  split at e
  · assumption
  · omega
theorem rev_in (e : revE s p x n = 0) : inP s p = true := by
  unfold revE at e
  split at e
  · assumption
  · omega
theorem com_fine (h : Fine s i) (hx : U64 x) (hi : i < 100) : Fine (com s p x) (i + 1) := by
  unfold com
  split
  · rename_i e
    have hin := (inP_iff s p).1 (com_in e)
    have hc := h.c
    refine ⟨⟨h.ok.n, h.ok.q, fun y hy => ?_, h.ok.rs, ?_, h.ok.rn⟩, ?_, Nat.le_succ_of_le h.r⟩
    · rcases List.mem_append.1 hy with hy | hy
      · exact h.ok.cs y hy
      · simp at hy
        subst hy
        exact ⟨hin, hx⟩
    · simp only [List.length_append, List.length_cons, List.length_nil]
      omega
    · simp only [List.length_append, List.length_cons, List.length_nil]
      omega
  · exact h.more
theorem rev_fine (h : Fine s i) (hx : U64 x) (hi : i < 100) : Fine (rev s p x n) (i + 1) := by
  unfold rev
  split
  · rename_i e
    have hin := (inP_iff s p).1 (rev_in e)
    have hr := h.r
    refine ⟨⟨h.ok.n, h.ok.q, h.ok.cs, fun y hy => ?_, h.ok.cn, ?_⟩, Nat.le_succ_of_le h.c, ?_⟩
    · rcases List.mem_append.1 hy with hy | hy
      · exact h.ok.rs y hy
      · simp at hy
        subst hy
        exact ⟨hin, hx⟩
    · simp only [List.length_append, List.length_cons, List.length_nil]
      omega
    · simp only [List.length_append, List.length_cons, List.length_nil]
      omega
  · exact h.more
theorem lock_fine (h : Fine s i) : Fine (lock s) (i + 1) := by
  unfold lock
  split
  · exact ⟨⟨h.ok.n, h.ok.q, h.ok.cs, h.ok.rs, h.ok.cn, h.ok.rn⟩, Nat.le_succ_of_le h.c, Nat.le_succ_of_le h.r⟩
  · exact h.more
theorem new_fine {a q : Int} (h1 : 1 ≤ a) (h2 : a ≤ 8) (h3 : 1 ≤ q) (h4 : q ≤ a) : Fine ⟨a, q, false, [], []⟩ 0 := ⟨⟨⟨h1, h2⟩, ⟨h3, h4⟩, fun y hy => by simp at hy, fun y hy => by simp at hy, by simp, by simp⟩, by simp, by simp⟩
end

/-! ### the two objects -/
structure Both (w W : World) (g d v g2 : Nat) (vc vr : Value) (s1 s2 : St) (ts : List (Int × Int × Int)) : Prop where
  a : Cm W g d v s1
  b : Rf W g2 vc vr s2 ts
  ap : ∀ k, own3 g d v k → ¬ ownR g2 vc vr k
  oa : ∀ k, own3 g d v k → w.heap.size ≤ k
  ob : ∀ k, ownR g2 vc vr k → w.heap.size ≤ k
  old : Below w.heap.size w W
section
variable {w W W' : World} {g d v g2 : Nat} {vc vr vc' vr' : Value} {s1 s2 s1' s2' : St} {ts ts' : List (Int × Int × Int)}
theorem Both.below (h : Both w W g d v g2 vc vr s1 s2 ts) (hb : Below W.heap.size W W') : Both w W' g d v g2 vc vr s1 s2 ts :=
  ⟨h.a.below hb, h.b.below hb, h.ap, h.oa, h.ob, h.old.trans (hb.mono h.old.size)⟩
theorem Both.stepA (h : Both w W g d v g2 vc vr s1 s2 ts) (c : Cm W' g d v s1') (f : Frm (own3 g d v) W W') : Both w W' g d v g2 vc vr s1' s2 ts :=
  ⟨c, h.b.frm f fun k hk hk' => h.ap k hk' hk, h.ap, h.oa, h.ob, h.old.trans (f.below h.old.size fun i hi hk => by have := h.oa i hk; omega)⟩
theorem Both.stepB (h : Both w W g d v g2 vc vr s1 s2 ts) (r : Rf W' g2 vc' vr' s2' ts') (f : Frm (ownR g2 vc vr) W W') (o : ∀ k, ownR g2 vc' vr' k → ownR g2 vc vr k ∨ W.heap.size ≤ k) : Both w W' g d v g2 vc' vr' s1 s2' ts' :=
  ⟨h.a.frm f fun k hk hk' => h.ap k hk hk', r, fun k hk hk' => by
    rcases o k hk' with h2 | h2
    · exact h.ap k hk h2
    · have := h.a.lt hk
      omega, h.oa, fun k hk => by
    rcases o k hk with h2 | h2
    · exact h.ob k h2
    · have := h.old.size
      omega, h.old.trans (f.below h.old.size fun i hi hk => by have := h.ob i hk; omega)⟩
theorem Both.far (h : Both w W g d v g2 vc vr s1 s2 ts) {k : Nat} (hk : W.heap.size ≤ k) : ¬ own3 g d v k := fun e => by have := h.a.lt e; omega
end

/-! ### the list of calls -/
structure Do where
  kind : Int
  party : Int
  value : Int
  nonce : Int
  turn : Int
def DoSl (w : World) (A : Option Addr) (xs : List Do) : Prop :=
  ∀ k x, xs[k]? = some x → ∃ b off, A = some ⟨b, off, none⟩ ∧ b < w.heap.size ∧ (w.cell? ⟨b, off + k * 5, none⟩ = some (.int .i64 x.kind) ∧ w.cell? ⟨b, off + k * 5 + 1, none⟩ = some (.int .i64 x.party) ∧ w.cell? ⟨b, off + k * 5 + 2, none⟩ = some (.int .u64 x.value) ∧ w.cell? ⟨b, off + k * 5 + 3, none⟩ = some (.int .u64 x.nonce) ∧ w.cell? ⟨b, off + k * 5 + 4, none⟩ = some (.int .u64 x.turn)) ∧ I64 x.party ∧ U64 x.value ∧ U64 x.nonce
theorem DoSl.at {w : World} {A : Option Addr} {xs : List Do} (h : DoSl w A xs) {k : Nat} {x : Do} (hk : xs[k]? = some x) : ∃ b off, A = some ⟨b, off, none⟩ ∧ (∀ W, Below w.heap.size w W → W.cell? ⟨b, off + k * 5, none⟩ = some (.int .i64 x.kind) ∧ W.cell? ⟨b, off + k * 5 + 1, none⟩ = some (.int .i64 x.party) ∧ W.cell? ⟨b, off + k * 5 + 2, none⟩ = some (.int .u64 x.value) ∧ W.cell? ⟨b, off + k * 5 + 3, none⟩ = some (.int .u64 x.nonce) ∧ W.cell? ⟨b, off + k * 5 + 4, none⟩ = some (.int .u64 x.turn)) ∧ I64 x.party ∧ U64 x.value ∧ U64 x.nonce := by
  obtain ⟨b, off, e, hlt, ⟨q0, q1, q2, q3, q4⟩, h1, h2, h3⟩ := h k x hk
  exact ⟨b, off, e, fun W hb => ⟨(hb.cell hlt).trans q0, (hb.cell hlt).trans q1, (hb.cell hlt).trans q2, (hb.cell hlt).trans q3, (hb.cell hlt).trans q4⟩, h1, h2, h3⟩
end Go.Proofs.Ytdgekhbmcmojdaa.Cm
