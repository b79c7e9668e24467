/-
  The walks of lotteryref27: committed, opened, New, Commit, Lock, Locked. Conditions: the object lies in memory; numbers of their kinds.
-/
import Derived.Test.YtdgekhbmcmojdaaCmW3
import Derived.Deep.RegionLaw
namespace Go.Proofs.Ytdgekhbmcmojdaa.Cm
open Go.RowKit Go.Proofs.Ytdgekhbmcmojdaa.Mem Go.Proofs.Ytdgekhbmcmojdaa.Dg Go.Proofs.Ytdgekhbmcmojdaa.Mp

def rcells (s : St) (vc vr : Value) : Array Value := #[.int .i64 s.n, .int .i64 s.q, .bool s.lock, vc, vr]
/-- block g is the reference's object in state s; its rows are vc and vr. -/
structure Rf (w : World) (g : Nat) (vc vr : Value) (s : St) (ts : List (Int × Int × Int)) : Prop where
  b : Blk w g 64 (rcells s vc vr)
  oc : w.ownsRow 0 39 2 vc s.cs.length (cells2 s.cs)
  orr : w.ownsRow 0 24 3 vr s.rs.length (cells3 ts)
  ht : ts.map (fun t => (t.1, t.2.1)) = s.rs
def ownR (g : Nat) (vc vr : Value) (k : Nat) : Prop := k = g ∨ vc.ownBlock = some k ∨ vr.ownBlock = some k
theorem rows_apart {w : World} {b b' : Nat} {e e' : TypeId} {z z' n n' : Nat} {v v' : Value} {xs xs' : List Value} (h : w.ownsRow b e z v n xs) (h' : w.ownsRow b' e' z' v' n' xs') (hne : e ≠ e') : ∀ k, v.ownBlock = some k → v'.ownBlock ≠ some k := by
  intro k hk hk'
  rcases h.2 with ⟨rfl, _⟩ | ⟨g, cap, cur, rfl, _, h1, _⟩
  · simp [Value.ownBlock] at hk
  · rcases h'.2 with ⟨rfl, _⟩ | ⟨g', cap', cur', rfl, _, h2, _⟩
    · simp [Value.ownBlock] at hk'
    · have e1 : g = k := by simpa [Value.ownBlock] using hk
      have e2 : g' = k := by simpa [Value.ownBlock] using hk'
      subst e1 e2
      rw [h1] at h2
      injection h2 with h2
      injection h2 with _ h2
      exact hne h2
section
variable {w w' : World} {g : Nat} {vc vr : Value} {s : St} {ts : List (Int × Int × Int)}
theorem Rf.frm {F : Nat → Prop} (h : Rf w g vc vr s ts) (hf : Frm F w w') (hn : ∀ k, ownR g vc vr k → ¬ F k) : Rf w' g vc vr s ts :=
  ⟨h.b.frm hf (hn g (.inl rfl)), own_frm h.oc hf fun k hk => hn k (.inr (.inl hk)), own_frm h.orr hf fun k hk => hn k (.inr (.inr hk)), h.ht⟩
theorem Rf.below (h : Rf w g vc vr s ts) (hb : Below w.heap.size w w') : Rf w' g vc vr s ts := h.frm (F := fun _ => False) (Frm.of_below hb fun i hi hg => by omega) fun _ _ g => g
theorem Rf.lt (h : Rf w g vc vr s ts) {k : Nat} (hk : ownR g vc vr k) : k < w.heap.size := by
  rcases hk with rfl | hk | hk
  · exact h.b.lt
  · exact (h.oc.lt k hk).2
  · exact (h.orr.lt k hk).2
end
def RfPost (g : Nat) (vc vr : Value) (s : St) (x : Value) (w : World) (e : Ending) (w' : World) : Prop :=
  e = .returned x ∧ ∃ vc' vr' ts', Rf w' g vc' vr' s ts' ∧ Frm (ownR g vc vr) w w' ∧ ∀ k, ownR g vc' vr' k → ownR g vc vr k ∨ w.heap.size ≤ k
theorem rf_same {w w' : World} {g : Nat} {vc vr : Value} {s : St} {ts : List (Int × Int × Int)} {x : Value} (h : Rf w g vc vr s ts) (hb : Below w.heap.size w w') : RfPost g vc vr s x w (.returned x) w' :=
  ⟨rfl, vc, vr, ts, h.below hb, Frm.of_below hb fun i hi hg => by omega, fun _ hk => .inl hk⟩
theorem rf_end {w W0 W9 : World} {g : Nat} {vc vr vc' vr' : Value} {s : St} {ts : List (Int × Int × Int)} {x : Value} (hb : Below w.heap.size w W0) (E : Rf W9 g vc' vr' s ts ∧ Frm (ownR g vc vr) W0 W9 ∧ ∀ k, ownR g vc' vr' k → ownR g vc vr k ∨ W0.heap.size ≤ k) : RfPost g vc vr s x w (.returned x) W9 :=
  ⟨rfl, vc', vr', ts, E.1, (Frm.of_below (F := ownR g vc vr) hb fun i hi hg => by omega).trans E.2.1 (fun _ _ h => h), fun k hk => (E.2.2 k hk).imp id (Nat.le_trans hb.size)⟩
theorem tx_info : (Try.prog.info? 39).map (fun i => (i.zero, i.size, i.bytes)) = some (some (.agg #[.int .i64 0, .int .u64 0]), 2, 16) := by kernel_rfl
theorem tv_info : (Try.prog.info? 24).map (fun i => (i.zero, i.size, i.bytes)) = some (some (.agg #[.int .i64 0, .int .u64 0, .int .u64 0]), 3, 24) := by kernel_rfl
theorem size_tx : (Try.prog.info? 39).map (·.size) = some 2 := by kernel_rfl
theorem exec_load_tx (ρ : Operand → Value) (dst : Option Tmp) (x : Operand) (ty : TypeId) (pos : String) (after : Array Edge) (guard : Option (Nat × Bool)) :
    execOp ρ { dst, op := .load 39 x, type := ty, pos, after, guard } = (do pure (.value (← loadRow 39 (ρ x)))) := rfl
theorem load_tx {W : World} {g : Nat} {cs : Array Value} (h : Blk W g 39 cs) (hs : cs.size = 2) : (loadRow 39 (.pointer (some ⟨g, 0, none⟩))).run Try.prog W = .ok (.agg cs) W :=
  run_loadRow h Try.underlying39 (size_tx.trans (congrArg some hs.symm))
attribute [local go_sem ↓] exec_load_tx exec_load_rv
theorem new_cells (w : World) (cs : List Value) (t : TypeId) (z g : Nat) (hz : cs.length = z) (hg : g = w.heap.size) : Sl (w.alloc (.cells cs.toArray t)) z (some ⟨g, 0, none⟩) 1 cs :=
  ⟨by rw [hz, Nat.one_mul], fun _ => ⟨g, 0, rfl, fun j u hu => by rw [hg, World.cell?_alloc_mark]; simpa using hu⟩⟩
theorem new_tx (w : World) (p x : Int) (t : TypeId) {g : Nat} (hg : g = w.heap.size) : Sl (w.alloc (.cells #[.int .i64 p, .int .u64 x] t)) 2 (some ⟨g, 0, none⟩) 1 [.int .i64 p, .int .u64 x] := new_cells w [.int .i64 p, .int .u64 x] t 2 g rfl hg
theorem new_tv (w : World) (p x n : Int) (t : TypeId) {g : Nat} (hg : g = w.heap.size) : Sl (w.alloc (.cells #[.int .i64 p, .int .u64 x, .int .u64 n] t)) 3 (some ⟨g, 0, none⟩) 1 [.int .i64 p, .int .u64 x, .int .u64 n] := new_cells w [.int .i64 p, .int .u64 x, .int .u64 n] t 3 g rfl hg
theorem one2 (p x : Int) : ∀ u ∈ ([.int .i64 p, .int .u64 x] : List Value), u.oneCell' = true := by intro u hu; simp at hu; rcases hu with rfl | rfl <;> rfl
theorem one3 (p x n : Int) : ∀ u ∈ ([.int .i64 p, .int .u64 x, .int .u64 n] : List Value), u.oneCell' = true := by intro u hu; simp at hu; rcases hu with rfl | rfl | rfl <;> rfl
/-- one more commitment. -/
theorem rf_commit {W0 W1 w2 : World} {g : Nat} {vc vr v2 : Value} {s : St} {ts : List (Int × Int × Int)} {p x : Int} (h : Rf W0 g vc vr s ts) (h01 : Frm (fun _ => False) W0 W1) (hown : w2.ownsRow 0 39 2 v2 (s.cs.length + 1) (cells2 s.cs ++ [.int .i64 p, .int .u64 x]))
    (hg : W1.grownBy w2 vc.ownBlock) (hat : v2.ownBlock = vc.ownBlock ∨ v2.ownBlock = some W1.heap.size) :
    Rf (w2.setCell ⟨g, 3, none⟩ v2) g v2 vr ⟨s.n, s.q, s.lock, s.cs ++ [(p, x)], s.rs⟩ ts ∧ Frm (ownR g vc vr) W0 (w2.setCell ⟨g, 3, none⟩ v2) ∧ ∀ k, ownR g v2 vr k → ownR g vc vr k ∨ W0.heap.size ≤ k := by
  have hF : Frm (fun k => vc.ownBlock = some k) W0 w2 := (h01.weaken fun _ _ f => f.elim).trans (Frm.of_grown hg fun i hi => hi) (fun _ _ h => h)
  have hb2 : Blk w2 g 64 (rcells s vc vr) := h.b.frm hF (own_apart h.oc h.b (by decide))
  have hr2 : w2.ownsRow 0 24 3 vr s.rs.length (cells3 ts) := own_frm h.orr hF fun k hk hc => rows_apart h.oc h.orr (by decide) k hc hk
  have hS : Frm (· = g) w2 (w2.setCell ⟨g, 3, none⟩ v2) := (Frm.refl (· = g) w2).setCell (fun _ => rfl) _
  have hc2 : cells2 (s.cs ++ [(p, x)]) = cells2 s.cs ++ [.int .i64 p, .int .u64 x] := cells2_append _ _
  refine ⟨⟨hb2.put 3 v2, ?_, own_frm hr2 hS fun k hk e => own_apart hr2 hb2 (by decide) (by rw [hk, e]), h.ht⟩, hF.weaken (G := ownR g vc vr) (fun i _ hi => .inr (.inl hi)) |>.trans (hS.weaken (G := ownR g vc vr) fun i _ hi => .inl hi) (fun _ _ h => h), fun k hk => ?_⟩
  · rw [List.length_append, hc2]
    exact own_frm hown hS fun k hk e => own_apart hown hb2 (by decide) (by rw [hk, e])
  · rcases hk with rfl | hk | hk
    · exact .inl (.inl rfl)
    · rcases hat with e | e
      · exact .inl (.inr (.inl (by rw [← e]; exact hk)))
      · rw [e] at hk
        injection hk with hk
        exact .inr (by have := h01.size; omega)
    · exact .inl (.inr (.inr hk))
/-- one more opened value. -/
theorem rf_reveal {W0 W1 w2 : World} {g : Nat} {vc vr v2 : Value} {s : St} {ts : List (Int × Int × Int)} {p x n : Int} (h : Rf W0 g vc vr s ts) (h01 : Frm (fun _ => False) W0 W1) (hown : w2.ownsRow 0 24 3 v2 (s.rs.length + 1) (cells3 ts ++ [.int .i64 p, .int .u64 x, .int .u64 n]))
    (hg : W1.grownBy w2 vr.ownBlock) (hat : v2.ownBlock = vr.ownBlock ∨ v2.ownBlock = some W1.heap.size) :
    Rf (w2.setCell ⟨g, 4, none⟩ v2) g vc v2 ⟨s.n, s.q, s.lock, s.cs, s.rs ++ [(p, x)]⟩ (ts ++ [(p, x, n)]) ∧ Frm (ownR g vc vr) W0 (w2.setCell ⟨g, 4, none⟩ v2) ∧ ∀ k, ownR g vc v2 k → ownR g vc vr k ∨ W0.heap.size ≤ k := by
  have hF : Frm (fun k => vr.ownBlock = some k) W0 w2 := (h01.weaken fun _ _ f => f.elim).trans (Frm.of_grown hg fun i hi => hi) (fun _ _ h => h)
  have hb2 : Blk w2 g 64 (rcells s vc vr) := h.b.frm hF (own_apart h.orr h.b (by decide))
  have hr2 : w2.ownsRow 0 39 2 vc s.cs.length (cells2 s.cs) := own_frm h.oc hF fun k hk hc => rows_apart h.orr h.oc (by decide) k hc hk
  have hS : Frm (· = g) w2 (w2.setCell ⟨g, 4, none⟩ v2) := (Frm.refl (· = g) w2).setCell (fun _ => rfl) _
  have hc2 : cells3 (ts ++ [(p, x, n)]) = cells3 ts ++ [.int .i64 p, .int .u64 x, .int .u64 n] := cells3_append _ _
  refine ⟨⟨hb2.put 4 v2, own_frm hr2 hS fun k hk e => own_apart hr2 hb2 (by decide) (by rw [hk, e]), ?_, by rw [List.map_append, h.ht]; rfl⟩, hF.weaken (G := ownR g vc vr) (fun i _ hi => .inr (.inr hi)) |>.trans (hS.weaken (G := ownR g vc vr) fun i _ hi => .inl hi) (fun _ _ h => h), fun k hk => ?_⟩
  · rw [List.length_append, hc2]
    exact own_frm hown hS fun k hk e => own_apart hown hb2 (by decide) (by rw [hk, e])
  · rcases hk with rfl | hk | hk
    · exact .inl (.inl rfl)
    · exact .inl (.inr (.inl hk))
    · rcases hat with e | e
      · exact .inl (.inr (.inr (by rw [← e]; exact hk)))
      · rw [e] at hk
        injection hk with hk
        exact .inr (by have := h01.size; omega)
theorem cs_at {l : List (Int × Int)} {k : Nat} (h : k < l.length) : l[k]? = some l[k] := List.getElem?_eq_getElem h

set_option maxRecDepth 100000 in
set_option maxHeartbeats 2000000 in
theorem committed_any (g : Nat) (vc vr : Value) (s : St) (ts : List (Int × Int × Int)) (p : Int) (w : World) (h : Rf w g vc vr s ts) (hn : s.cs.length ≤ 100) :
    Calls Try.prog 31 #[.pointer (some ⟨g, 0, none⟩), .int .i64 p] w fun e w' => e = .returned (.int .i64 (posK s.cs p 0)) ∧ w = w' := by
  obtain ⟨A, c, hv, hs⟩ := own_form h.oc
  have q : w.cell? ⟨g, 3, none⟩ = some (.slice A s.cs.length c) := by rw [← hv]; exact h.b.cell 3
  have HS := Lib.hid hs
  obtain ⟨n, hnn⟩ : ∃ n, n = s.cs.length := ⟨_, rfl⟩
  rw [← hnn] at q hn
  have HN := Lib.hid hnn
  clear h hs hv hnn
  go_enter Try.func31, Try.ntmps31
  go_wp2_with fail
  go_loop [5] (fun i => ∃ k : Nat, k ≤ n ∧ i = .int .i64 k ∧ Hid (posK s.cs p 0 = posK (s.cs.drop k) p k)) (fun i => n - (intOf i).toNat)
  case atStart => exact ⟨0, by omega, rfl, rfl⟩
  case round =>
    obtain ⟨k, hk, rfl, HP⟩ := hrel
    by_cases hlt : k < n
    · have kl : k < s.cs.length := by have := HN.out; omega
      obtain ⟨b, off, rfl, hc⟩ := HS.out.open_ (by omega)
      have hcell := hc (k * 2) _ (cells2_at (cs_at kl)).1
      have HD := Lib.hid (posK_drop (k := p) (List.getElem?_eq_getElem kl))
      have hlti : (k : Int) < (n : Int) := by omega
      have h0i : (0 : Int) ≤ (k : Int) := by omega
      clear hc
      generalize s.cs[k].1 = y at *
      by_cases he : y = p
      · have te : (y == p) = true := by simp [he]
        have HE : Hid (posK s.cs p 0 = (k : Int)) := by show _ = _; rw [HP.out, HD.out, if_pos he]
        clear he
        go_wp2_with fail
        go_ret
        exact ⟨by rw [HE.out]; rfl, rfl⟩
      · have te : (y == p) = false := by simp [he]
        have HE : Hid (posK s.cs p 0 = posK (s.cs.drop (k + 1)) p (k + 1)) := by show _ = _; rw [HP.out, HD.out, if_neg he]
        clear he
        go_wp2_with fail
        go_round
        case rel => exact ⟨k + 1, by omega, by go_num, HE⟩
        case measure => simp [intOf]; omega
    · have HE : Hid (posK s.cs p 0 = -1) := by show _ = _; rw [HP.out]; exact posK_end (by have := HN.out; omega)
      have hge : (n : Int) ≤ (k : Int) := by omega
      go_wp2_with fail
      go_ret
      exact ⟨by rw [HE.out]; rfl, rfl⟩

set_option maxRecDepth 100000 in
set_option maxHeartbeats 2000000 in
theorem opened_any (g : Nat) (vc vr : Value) (s : St) (ts : List (Int × Int × Int)) (p : Int) (w : World) (h : Rf w g vc vr s ts) (hn : s.rs.length ≤ 100) :
    Calls Try.prog 32 #[.pointer (some ⟨g, 0, none⟩), .int .i64 p] w fun e w' => e = .returned (.int .i64 (posK s.rs p 0)) ∧ w = w' := by
  obtain ⟨A, c, hv, hs⟩ := own_form h.orr
  have q : w.cell? ⟨g, 4, none⟩ = some (.slice A s.rs.length c) := by rw [← hv]; exact h.b.cell 4
  have HS := Lib.hid hs
  have HT := Lib.hid h.ht
  obtain ⟨n, hnn⟩ : ∃ n, n = s.rs.length := ⟨_, rfl⟩
  rw [← hnn] at q hn
  have HN := Lib.hid hnn
  clear h hs hv hnn
  go_enter Try.func32, Try.ntmps32
  go_wp2_with fail
  go_loop [5] (fun i => ∃ k : Nat, k ≤ n ∧ i = .int .i64 k ∧ Hid (posK s.rs p 0 = posK (s.rs.drop k) p k)) (fun i => n - (intOf i).toNat)
  case atStart => exact ⟨0, by omega, rfl, rfl⟩
  case round =>
    obtain ⟨k, hk, rfl, HP⟩ := hrel
    by_cases hlt : k < n
    · have kl : k < s.rs.length := by have := HN.out; omega
      obtain ⟨b, off, rfl, hc⟩ := HS.out.open_ (by omega)
      have kt : k < ts.length := by have := congrArg List.length HT.out; rw [List.length_map] at this; omega
      have hcell := hc (k * 3) _ (cells3_at (List.getElem?_eq_getElem kt)).1
      have hfst : ts[k].1 = s.rs[k].1 := by
        have h1 : (ts.map (fun t => (t.1, t.2.1)))[k]? = s.rs[k]? := by rw [HT.out]
        rw [List.getElem?_map, List.getElem?_eq_getElem kt, List.getElem?_eq_getElem kl] at h1
        injection h1 with h1
        rw [← h1]
      rw [hfst] at hcell
      have HD := Lib.hid (posK_drop (k := p) (List.getElem?_eq_getElem kl))
      have hlti : (k : Int) < (n : Int) := by omega
      have h0i : (0 : Int) ≤ (k : Int) := by omega
      clear hc hfst
      generalize s.rs[k].1 = y at *
      by_cases he : y = p
      · have te : (y == p) = true := by simp [he]
        have HE : Hid (posK s.rs p 0 = (k : Int)) := by show _ = _; rw [HP.out, HD.out, if_pos he]
        clear he
        go_wp2_with fail
        go_ret
        exact ⟨by rw [HE.out]; rfl, rfl⟩
      · have te : (y == p) = false := by simp [he]
        have HE : Hid (posK s.rs p 0 = posK (s.rs.drop (k + 1)) p (k + 1)) := by show _ = _; rw [HP.out, HD.out, if_neg he]
        clear he
        go_wp2_with fail
        go_round
        case rel => exact ⟨k + 1, by omega, by go_num, HE⟩
        case measure => simp [intOf]; omega
    · have HE : Hid (posK s.rs p 0 = -1) := by show _ = _; rw [HP.out]; exact posK_end (by have := HN.out; omega)
      have hge : (n : Int) ≤ (k : Int) := by omega
      go_wp2_with fail
      go_ret
      exact ⟨by rw [HE.out]; rfl, rfl⟩

set_option maxRecDepth 100000 in
set_option maxHeartbeats 2000000 in
theorem commitR_2a (g : Nat) (vc vr : Value) (s : St) (ts : List (Int × Int × Int)) (p x : Int) (w : World) (h : Rf w g vc vr s ts) (hi : p < 1) :
    Calls Try.prog 15 #[.pointer (some ⟨g, 0, none⟩), .agg #[.int .i64 p, .int .u64 x]] w (RfPost g vc vr s (.int .i64 2) w) := by
  obtain ⟨W0, hW0⟩ : ∃ W0, W0 = w.alloc (.cells #[.int .i64 p, .int .u64 x] 39) := ⟨_, rfl⟩
  have HR : Hid (Rf W0 g vc vr s ts) := by rw [hW0]; exact h.below ((Below.refl _ w).alloc (Nat.le_refl _) _)
  have KB : Hid (Blk W0 w.heap.size 39 #[.int .i64 p, .int .u64 x]) := by rw [hW0]; exact Blk.new _ _ _
  have BE : Hid (Below w.heap.size w W0) := by rw [hW0]; exact (Below.refl _ w).alloc (Nat.le_refl _) _
  have HO := Lib.hid h
  have HW := Lib.hid hW0
  clear hW0 h
  go_enter Try.func15, Try.ntmps15
  go_wp2_with fail
  rw [← HW.out]
  clear HW
  refine Reg.start (by kernel_rfl) ?_
  refine Reg.take 0 (v := ?_) rfl (by kernel_rfl) (fun _ _ _ h => h) rfl ?_ ?_
  rotate_left
  · intro W hW
    go_simp
    try with_reducible rfl
  try simp only [Act.put, List.setIfInBounds_toArray, List.set_cons_zero, List.set_cons_succ]
  refine Reg.take 1 (v := ?_) rfl (by kernel_rfl) (fun _ _ _ h => h) rfl ?_ ?_
  rotate_left
  · intro W hW
    have q : W.cell? ⟨w.heap.size, 0, none⟩ = some (.int .i64 p) := (KB.out.below hW.old KB.out.lt).cell 0
    go_simp
    try with_reducible rfl
  try simp only [Act.put, List.setIfInBounds_toArray, List.set_cons_zero, List.set_cons_succ]
  refine Reg.take 2 (v := ?_) rfl (by kernel_rfl) (fun _ _ _ h => h) rfl ?_ ?_
  rotate_left
  · intro W hW
    go_simp
    try with_reducible rfl
  try simp only [Act.put, List.setIfInBounds_toArray, List.set_cons_zero, List.set_cons_succ]
  refine Reg.take 3 (v := ?_) rfl (by kernel_rfl) (fun _ _ _ h => h) rfl ?_ ?_
  rotate_left
  · intro W hW
    go_simp
    try with_reducible rfl
  try simp only [Act.put, List.setIfInBounds_toArray, List.set_cons_zero, List.set_cons_succ]
  refine Reg.skip 4 rfl (by kernel_rfl) (fun _ _ _ h => h) rfl ?_
  try simp only [Act.put, List.setIfInBounds_toArray, List.set_cons_zero, List.set_cons_succ]
  refine Reg.skip 5 rfl (by kernel_rfl) (fun _ _ _ h => h) rfl ?_
  try simp only [Act.put, List.setIfInBounds_toArray, List.set_cons_zero, List.set_cons_succ]
  refine Reg.skip 6 rfl (by kernel_rfl) (fun _ _ _ h => h) rfl ?_
  try simp only [Act.put, List.setIfInBounds_toArray, List.set_cons_zero, List.set_cons_succ]
  refine Reg.skip 7 rfl (by kernel_rfl) (fun _ _ _ h => h) rfl ?_
  try simp only [Act.put, List.setIfInBounds_toArray, List.set_cons_zero, List.set_cons_succ]
  refine Reg.skip 8 rfl (by kernel_rfl) (fun _ _ _ h => h) rfl ?_
  try simp only [Act.put, List.setIfInBounds_toArray, List.set_cons_zero, List.set_cons_succ]
  refine Reg.skip 9 rfl (by kernel_rfl) (fun _ _ _ h => h) rfl ?_
  try simp only [Act.put, List.setIfInBounds_toArray, List.set_cons_zero, List.set_cons_succ]
  refine Reg.skip 10 rfl (by kernel_rfl) (fun _ _ _ h => h) rfl ?_
  try simp only [Act.put, List.setIfInBounds_toArray, List.set_cons_zero, List.set_cons_succ]
  refine Reg.take 11 (v := ?_) rfl (by kernel_rfl) (fun _ _ _ h => h) rfl ?_ ?_
  rotate_left
  · intro W hW
    go_simp
    try with_reducible rfl
  try simp only [Act.put, List.setIfInBounds_toArray, List.set_cons_zero, List.set_cons_succ]
  refine Reg.take 12 (v := ?_) rfl (by kernel_rfl) (fun _ _ _ h => h) rfl ?_ ?_
  rotate_left
  · intro W hW
    go_simp
    try with_reducible rfl
  try simp only [Act.put, List.setIfInBounds_toArray, List.set_cons_zero, List.set_cons_succ]
  refine Reg.done (by kernel_rfl) ?_
  go_wp2_with fail
  go_ret
  exact rf_same HO.out (BE.out.trans (Below.mono ((Below.refl _ W0).drew) BE.out.size))

set_option maxRecDepth 100000 in
set_option maxHeartbeats 2000000 in
theorem commitR_2b (g : Nat) (vc vr : Value) (s : St) (ts : List (Int × Int × Int)) (p x : Int) (w : World) (h : Rf w g vc vr s ts) (hi : ¬ p < 1) (hn : s.n < p) :
    Calls Try.prog 15 #[.pointer (some ⟨g, 0, none⟩), .agg #[.int .i64 p, .int .u64 x]] w (RfPost g vc vr s (.int .i64 2) w) := by
  obtain ⟨W0, hW0⟩ : ∃ W0, W0 = w.alloc (.cells #[.int .i64 p, .int .u64 x] 39) := ⟨_, rfl⟩
  have HR : Hid (Rf W0 g vc vr s ts) := by rw [hW0]; exact h.below ((Below.refl _ w).alloc (Nat.le_refl _) _)
  have KB : Hid (Blk W0 w.heap.size 39 #[.int .i64 p, .int .u64 x]) := by rw [hW0]; exact Blk.new _ _ _
  have BE : Hid (Below w.heap.size w W0) := by rw [hW0]; exact (Below.refl _ w).alloc (Nat.le_refl _) _
  have HO := Lib.hid h
  have HW := Lib.hid hW0
  clear hW0 h
  have hi1 : decide (p < 1) = false := by simp; omega
  clear hi
  go_enter Try.func15, Try.ntmps15
  go_wp2_with fail
  rw [← HW.out]
  clear HW
  refine Reg.start (by kernel_rfl) ?_
  refine Reg.take 0 (v := ?_) rfl (by kernel_rfl) (fun _ _ _ h => h) rfl ?_ ?_
  rotate_left
  · intro W hW
    go_simp
    try with_reducible rfl
  try simp only [Act.put, List.setIfInBounds_toArray, List.set_cons_zero, List.set_cons_succ]
  refine Reg.take 1 (v := ?_) rfl (by kernel_rfl) (fun _ _ _ h => h) rfl ?_ ?_
  rotate_left
  · intro W hW
    have q : W.cell? ⟨w.heap.size, 0, none⟩ = some (.int .i64 p) := (KB.out.below hW.old KB.out.lt).cell 0
    go_simp
    try with_reducible rfl
  try simp only [Act.put, List.setIfInBounds_toArray, List.set_cons_zero, List.set_cons_succ]
  refine Reg.take 2 (v := ?_) rfl (by kernel_rfl) (fun _ _ _ h => h) rfl ?_ ?_
  rotate_left
  · intro W hW
    go_simp
    try with_reducible rfl
  try simp only [Act.put, List.setIfInBounds_toArray, List.set_cons_zero, List.set_cons_succ]
  refine Reg.take 3 (v := ?_) rfl (by kernel_rfl) (fun _ _ _ h => h) rfl ?_ ?_
  rotate_left
  · intro W hW
    go_simp
    try with_reducible rfl
  try simp only [Act.put, List.setIfInBounds_toArray, List.set_cons_zero, List.set_cons_succ]
  refine Reg.take 4 (v := ?_) rfl (by kernel_rfl) (fun _ _ _ h => h) rfl ?_ ?_
  rotate_left
  · intro W hW
    go_simp
    try with_reducible rfl
  try simp only [Act.put, List.setIfInBounds_toArray, List.set_cons_zero, List.set_cons_succ]
  refine Reg.take 5 (v := ?_) rfl (by kernel_rfl) (fun _ _ _ h => h) rfl ?_ ?_
  rotate_left
  · intro W hW
    have q : W.cell? ⟨w.heap.size, 0, none⟩ = some (.int .i64 p) := (KB.out.below hW.old KB.out.lt).cell 0
    go_simp
    try with_reducible rfl
  try simp only [Act.put, List.setIfInBounds_toArray, List.set_cons_zero, List.set_cons_succ]
  refine Reg.take 6 (v := ?_) rfl (by kernel_rfl) (fun _ _ _ h => h) rfl ?_ ?_
  rotate_left
  · intro W hW
    go_simp
    try with_reducible rfl
  try simp only [Act.put, List.setIfInBounds_toArray, List.set_cons_zero, List.set_cons_succ]
  refine Reg.take 7 (v := ?_) rfl (by kernel_rfl) (fun _ _ _ h => h) rfl ?_ ?_
  rotate_left
  · intro W hW
    go_simp
    try with_reducible rfl
  try simp only [Act.put, List.setIfInBounds_toArray, List.set_cons_zero, List.set_cons_succ]
  refine Reg.take 8 (v := ?_) rfl (by kernel_rfl) (fun _ _ _ h => h) rfl ?_ ?_
  rotate_left
  · intro W hW
    go_simp
    try with_reducible rfl
  try simp only [Act.put, List.setIfInBounds_toArray, List.set_cons_zero, List.set_cons_succ]
  refine Reg.take 9 (v := ?_) rfl (by kernel_rfl) (fun _ _ _ h => h) rfl ?_ ?_
  rotate_left
  · intro W hW
    have q : W.cell? ⟨g, 0, none⟩ = some (.int .i64 s.n) := (HR.out.b.below hW.old HR.out.b.lt).cell 0
    go_simp
    try with_reducible rfl
  try simp only [Act.put, List.setIfInBounds_toArray, List.set_cons_zero, List.set_cons_succ]
  refine Reg.take 10 (v := ?_) rfl (by kernel_rfl) (fun _ _ _ h => h) rfl ?_ ?_
  rotate_left
  · intro W hW
    go_simp
    try with_reducible rfl
  try simp only [Act.put, List.setIfInBounds_toArray, List.set_cons_zero, List.set_cons_succ]
  refine Reg.take 11 (v := ?_) rfl (by kernel_rfl) (fun _ _ _ h => h) rfl ?_ ?_
  rotate_left
  · intro W hW
    go_simp
    try with_reducible rfl
  try simp only [Act.put, List.setIfInBounds_toArray, List.set_cons_zero, List.set_cons_succ]
  refine Reg.take 12 (v := ?_) rfl (by kernel_rfl) (fun _ _ _ h => h) rfl ?_ ?_
  rotate_left
  · intro W hW
    go_simp
    try with_reducible rfl
  try simp only [Act.put, List.setIfInBounds_toArray, List.set_cons_zero, List.set_cons_succ]
  refine Reg.done (by kernel_rfl) ?_
  go_wp2_with fail
  go_ret
  exact rf_same HO.out (BE.out.trans (Below.mono ((Below.refl _ W0).drew) BE.out.size))

set_option maxRecDepth 100000 in
set_option maxHeartbeats 2000000 in
theorem commitR_8 (g : Nat) (vc vr : Value) (s : St) (ts : List (Int × Int × Int)) (p x : Int) (w : World) (h : Rf w g vc vr s ts) (hi : 1 ≤ p ∧ p ≤ s.n) (hl : s.lock = true) :
    Calls Try.prog 15 #[.pointer (some ⟨g, 0, none⟩), .agg #[.int .i64 p, .int .u64 x]] w (RfPost g vc vr s (.int .i64 8) w) := by
  have hi1 : decide (p < 1) = false := by simp; omega
  have hi2 : decide (s.n < p) = false := by simp; omega
  clear hi
  obtain ⟨W0, hW0⟩ : ∃ W0, W0 = w.alloc (.cells #[.int .i64 p, .int .u64 x] 39) := ⟨_, rfl⟩
  have HR : Hid (Rf W0 g vc vr s ts) := by rw [hW0]; exact h.below ((Below.refl _ w).alloc (Nat.le_refl _) _)
  have KB : Hid (Blk W0 w.heap.size 39 #[.int .i64 p, .int .u64 x]) := by rw [hW0]; exact Blk.new _ _ _
  have BE : Hid (Below w.heap.size w W0) := by rw [hW0]; exact (Below.refl _ w).alloc (Nat.le_refl _) _
  have HO := Lib.hid h
  have HW := Lib.hid hW0
  clear hW0 h
  have q2 : W0.drew.cell? ⟨g, 2, none⟩ = some (.bool true) := by have := HR.out.b.cell 2; unfold rcells at this; rw [hl] at this; exact this
  clear hl
  go_enter Try.func15, Try.ntmps15
  go_wp2_with fail
  rw [← HW.out]
  clear HW
  refine Reg.start (by kernel_rfl) ?_
  refine Reg.take 0 (v := ?_) rfl (by kernel_rfl) (fun _ _ _ h => h) rfl ?_ ?_
  rotate_left
  · intro W hW
    go_simp
    try with_reducible rfl
  try simp only [Act.put, List.setIfInBounds_toArray, List.set_cons_zero, List.set_cons_succ]
  refine Reg.take 1 (v := ?_) rfl (by kernel_rfl) (fun _ _ _ h => h) rfl ?_ ?_
  rotate_left
  · intro W hW
    have q : W.cell? ⟨w.heap.size, 0, none⟩ = some (.int .i64 p) := (KB.out.below hW.old KB.out.lt).cell 0
    go_simp
    try with_reducible rfl
  try simp only [Act.put, List.setIfInBounds_toArray, List.set_cons_zero, List.set_cons_succ]
  refine Reg.take 2 (v := ?_) rfl (by kernel_rfl) (fun _ _ _ h => h) rfl ?_ ?_
  rotate_left
  · intro W hW
    go_simp
    try with_reducible rfl
  try simp only [Act.put, List.setIfInBounds_toArray, List.set_cons_zero, List.set_cons_succ]
  refine Reg.take 3 (v := ?_) rfl (by kernel_rfl) (fun _ _ _ h => h) rfl ?_ ?_
  rotate_left
  · intro W hW
    go_simp
    try with_reducible rfl
  try simp only [Act.put, List.setIfInBounds_toArray, List.set_cons_zero, List.set_cons_succ]
  refine Reg.take 4 (v := ?_) rfl (by kernel_rfl) (fun _ _ _ h => h) rfl ?_ ?_
  rotate_left
  · intro W hW
    go_simp
    try with_reducible rfl
  try simp only [Act.put, List.setIfInBounds_toArray, List.set_cons_zero, List.set_cons_succ]
  refine Reg.take 5 (v := ?_) rfl (by kernel_rfl) (fun _ _ _ h => h) rfl ?_ ?_
  rotate_left
  · intro W hW
    have q : W.cell? ⟨w.heap.size, 0, none⟩ = some (.int .i64 p) := (KB.out.below hW.old KB.out.lt).cell 0
    go_simp
    try with_reducible rfl
  try simp only [Act.put, List.setIfInBounds_toArray, List.set_cons_zero, List.set_cons_succ]
  refine Reg.take 6 (v := ?_) rfl (by kernel_rfl) (fun _ _ _ h => h) rfl ?_ ?_
  rotate_left
  · intro W hW
    go_simp
    try with_reducible rfl
  try simp only [Act.put, List.setIfInBounds_toArray, List.set_cons_zero, List.set_cons_succ]
  refine Reg.take 7 (v := ?_) rfl (by kernel_rfl) (fun _ _ _ h => h) rfl ?_ ?_
  rotate_left
  · intro W hW
    go_simp
    try with_reducible rfl
  try simp only [Act.put, List.setIfInBounds_toArray, List.set_cons_zero, List.set_cons_succ]
  refine Reg.take 8 (v := ?_) rfl (by kernel_rfl) (fun _ _ _ h => h) rfl ?_ ?_
  rotate_left
  · intro W hW
    go_simp
    try with_reducible rfl
  try simp only [Act.put, List.setIfInBounds_toArray, List.set_cons_zero, List.set_cons_succ]
  refine Reg.take 9 (v := ?_) rfl (by kernel_rfl) (fun _ _ _ h => h) rfl ?_ ?_
  rotate_left
  · intro W hW
    have q : W.cell? ⟨g, 0, none⟩ = some (.int .i64 s.n) := (HR.out.b.below hW.old HR.out.b.lt).cell 0
    go_simp
    try with_reducible rfl
  try simp only [Act.put, List.setIfInBounds_toArray, List.set_cons_zero, List.set_cons_succ]
  refine Reg.take 10 (v := ?_) rfl (by kernel_rfl) (fun _ _ _ h => h) rfl ?_ ?_
  rotate_left
  · intro W hW
    go_simp
    try with_reducible rfl
  try simp only [Act.put, List.setIfInBounds_toArray, List.set_cons_zero, List.set_cons_succ]
  refine Reg.take 11 (v := ?_) rfl (by kernel_rfl) (fun _ _ _ h => h) rfl ?_ ?_
  rotate_left
  · intro W hW
    go_simp
    try with_reducible rfl
  try simp only [Act.put, List.setIfInBounds_toArray, List.set_cons_zero, List.set_cons_succ]
  refine Reg.take 12 (v := ?_) rfl (by kernel_rfl) (fun _ _ _ h => h) rfl ?_ ?_
  rotate_left
  · intro W hW
    go_simp
    try with_reducible rfl
  try simp only [Act.put, List.setIfInBounds_toArray, List.set_cons_zero, List.set_cons_succ]
  refine Reg.done (by kernel_rfl) ?_
  go_wp2_with fail
  go_ret
  exact rf_same HO.out (BE.out.trans (Below.mono ((Below.refl _ W0).drew) BE.out.size))

set_option maxRecDepth 100000 in
set_option maxHeartbeats 2000000 in
theorem commitR_6 (g : Nat) (vc vr : Value) (s : St) (ts : List (Int × Int × Int)) (p x : Int) (w : World) (h : Rf w g vc vr s ts) (c : Int) (hi : 1 ≤ p ∧ p ≤ s.n) (hl : s.lock = false) (hf : findK s.cs p = some c) (hlen : s.cs.length ≤ 100) :
    Calls Try.prog 15 #[.pointer (some ⟨g, 0, none⟩), .agg #[.int .i64 p, .int .u64 x]] w (RfPost g vc vr s (.int .i64 6) w) := by
  have hi1 : decide (p < 1) = false := by simp; omega
  have hi2 : decide (s.n < p) = false := by simp; omega
  clear hi
  obtain ⟨j, hj, _⟩ := posK_some hf 0
  have HPV : Hid (posK s.cs p 0 = ((0 + j : Nat) : Int)) := hj
  clear hf hj
  obtain ⟨W0, hW0⟩ : ∃ W0, W0 = w.alloc (.cells #[.int .i64 p, .int .u64 x] 39) := ⟨_, rfl⟩
  have HR : Hid (Rf W0 g vc vr s ts) := by rw [hW0]; exact h.below ((Below.refl _ w).alloc (Nat.le_refl _) _)
  have KB : Hid (Blk W0 w.heap.size 39 #[.int .i64 p, .int .u64 x]) := by rw [hW0]; exact Blk.new _ _ _
  have BE : Hid (Below w.heap.size w W0) := by rw [hW0]; exact (Below.refl _ w).alloc (Nat.le_refl _) _
  have HO := Lib.hid h
  have HW := Lib.hid hW0
  clear hW0 h
  have q2 : W0.drew.cell? ⟨g, 2, none⟩ = some (.bool false) := by have := HR.out.b.cell 2; unfold rcells at this; rw [hl] at this; exact this
  clear hl
  go_enter Try.func15, Try.ntmps15
  go_wp2_with fail
  rw [← HW.out]
  clear HW
  refine Reg.start (by kernel_rfl) ?_
  refine Reg.take 0 (v := ?_) rfl (by kernel_rfl) (fun _ _ _ h => h) rfl ?_ ?_
  rotate_left
  · intro W hW
    go_simp
    try with_reducible rfl
  try simp only [Act.put, List.setIfInBounds_toArray, List.set_cons_zero, List.set_cons_succ]
  refine Reg.take 1 (v := ?_) rfl (by kernel_rfl) (fun _ _ _ h => h) rfl ?_ ?_
  rotate_left
  · intro W hW
    have q : W.cell? ⟨w.heap.size, 0, none⟩ = some (.int .i64 p) := (KB.out.below hW.old KB.out.lt).cell 0
    go_simp
    try with_reducible rfl
  try simp only [Act.put, List.setIfInBounds_toArray, List.set_cons_zero, List.set_cons_succ]
  refine Reg.take 2 (v := ?_) rfl (by kernel_rfl) (fun _ _ _ h => h) rfl ?_ ?_
  rotate_left
  · intro W hW
    go_simp
    try with_reducible rfl
  try simp only [Act.put, List.setIfInBounds_toArray, List.set_cons_zero, List.set_cons_succ]
  refine Reg.take 3 (v := ?_) rfl (by kernel_rfl) (fun _ _ _ h => h) rfl ?_ ?_
  rotate_left
  · intro W hW
    go_simp
    try with_reducible rfl
  try simp only [Act.put, List.setIfInBounds_toArray, List.set_cons_zero, List.set_cons_succ]
  refine Reg.take 4 (v := ?_) rfl (by kernel_rfl) (fun _ _ _ h => h) rfl ?_ ?_
  rotate_left
  · intro W hW
    go_simp
    try with_reducible rfl
  try simp only [Act.put, List.setIfInBounds_toArray, List.set_cons_zero, List.set_cons_succ]
  refine Reg.take 5 (v := ?_) rfl (by kernel_rfl) (fun _ _ _ h => h) rfl ?_ ?_
  rotate_left
  · intro W hW
    have q : W.cell? ⟨w.heap.size, 0, none⟩ = some (.int .i64 p) := (KB.out.below hW.old KB.out.lt).cell 0
    go_simp
    try with_reducible rfl
  try simp only [Act.put, List.setIfInBounds_toArray, List.set_cons_zero, List.set_cons_succ]
  refine Reg.take 6 (v := ?_) rfl (by kernel_rfl) (fun _ _ _ h => h) rfl ?_ ?_
  rotate_left
  · intro W hW
    go_simp
    try with_reducible rfl
  try simp only [Act.put, List.setIfInBounds_toArray, List.set_cons_zero, List.set_cons_succ]
  refine Reg.take 7 (v := ?_) rfl (by kernel_rfl) (fun _ _ _ h => h) rfl ?_ ?_
  rotate_left
  · intro W hW
    go_simp
    try with_reducible rfl
  try simp only [Act.put, List.setIfInBounds_toArray, List.set_cons_zero, List.set_cons_succ]
  refine Reg.take 8 (v := ?_) rfl (by kernel_rfl) (fun _ _ _ h => h) rfl ?_ ?_
  rotate_left
  · intro W hW
    go_simp
    try with_reducible rfl
  try simp only [Act.put, List.setIfInBounds_toArray, List.set_cons_zero, List.set_cons_succ]
  refine Reg.take 9 (v := ?_) rfl (by kernel_rfl) (fun _ _ _ h => h) rfl ?_ ?_
  rotate_left
  · intro W hW
    have q : W.cell? ⟨g, 0, none⟩ = some (.int .i64 s.n) := (HR.out.b.below hW.old HR.out.b.lt).cell 0
    go_simp
    try with_reducible rfl
  try simp only [Act.put, List.setIfInBounds_toArray, List.set_cons_zero, List.set_cons_succ]
  refine Reg.take 10 (v := ?_) rfl (by kernel_rfl) (fun _ _ _ h => h) rfl ?_ ?_
  rotate_left
  · intro W hW
    go_simp
    try with_reducible rfl
  try simp only [Act.put, List.setIfInBounds_toArray, List.set_cons_zero, List.set_cons_succ]
  refine Reg.take 11 (v := ?_) rfl (by kernel_rfl) (fun _ _ _ h => h) rfl ?_ ?_
  rotate_left
  · intro W hW
    go_simp
    try with_reducible rfl
  try simp only [Act.put, List.setIfInBounds_toArray, List.set_cons_zero, List.set_cons_succ]
  refine Reg.take 12 (v := ?_) rfl (by kernel_rfl) (fun _ _ _ h => h) rfl ?_ ?_
  rotate_left
  · intro W hW
    go_simp
    try with_reducible rfl
  try simp only [Act.put, List.setIfInBounds_toArray, List.set_cons_zero, List.set_cons_succ]
  refine Reg.done (by kernel_rfl) ?_
  have kx : W0.drew.cell? ⟨w.heap.size, 0, none⟩ = some (.int .i64 p) := KB.out.cell 0
  have HRd : Hid (Rf W0.drew g vc vr s ts) := HR.out.below (Below.refl _ W0).drew
  go_wp2_with fail
  refine (committed_any g vc vr s ts p _ HRd.out hlen).mono ?_
  rw [HPV.out]
  rintro e w' ⟨rfl, rfl⟩
  have t0 : (0 : Int) ≤ ((0 + j : Nat) : Int) := by omega
  go_wp2_with fail
  go_ret
  exact rf_same HO.out (BE.out.trans (Below.mono ((Below.refl _ W0).drew) BE.out.size))

set_option maxRecDepth 100000 in
set_option maxHeartbeats 2000000 in
theorem commitR_0 (g : Nat) (vc vr : Value) (s : St) (ts : List (Int × Int × Int)) (p x : Int) (w : World) (h : Rf w g vc vr s ts) (hi : 1 ≤ p ∧ p ≤ s.n) (hl : s.lock = false) (hf : findK s.cs p = none) (hlen : s.cs.length ≤ 100) :
    Calls Try.prog 15 #[.pointer (some ⟨g, 0, none⟩), .agg #[.int .i64 p, .int .u64 x]] w (RfPost g vc vr ⟨s.n, s.q, s.lock, s.cs ++ [(p, x)], s.rs⟩ (.int .i64 0) w) := by
  obtain ⟨i0, hi0, hz0, hz1, hz2⟩ := info_parts tx_info
  have hi1 : decide (p < 1) = false := by simp; omega
  have hi2 : decide (s.n < p) = false := by simp; omega
  clear hi
  have HPV : Hid (posK s.cs p 0 = -1) := posK_none hf 0
  clear hf
  obtain ⟨W0, hW0⟩ : ∃ W0, W0 = w.alloc (.cells #[.int .i64 p, .int .u64 x] 39) := ⟨_, rfl⟩
  have HR : Hid (Rf W0 g vc vr s ts) := by rw [hW0]; exact h.below ((Below.refl _ w).alloc (Nat.le_refl _) _)
  have KB : Hid (Blk W0 w.heap.size 39 #[.int .i64 p, .int .u64 x]) := by rw [hW0]; exact Blk.new _ _ _
  have BE : Hid (Below w.heap.size w W0) := by rw [hW0]; exact (Below.refl _ w).alloc (Nat.le_refl _) _
  have HO := Lib.hid h
  have HW := Lib.hid hW0
  clear hW0 h
  have q2 : W0.drew.cell? ⟨g, 2, none⟩ = some (.bool false) := by have := HR.out.b.cell 2; unfold rcells at this; rw [hl] at this; exact this
  clear hl
  go_enter Try.func15, Try.ntmps15
  go_wp2_with fail
  rw [← HW.out]
  clear HW
  refine Reg.start (by kernel_rfl) ?_
  refine Reg.take 0 (v := ?_) rfl (by kernel_rfl) (fun _ _ _ h => h) rfl ?_ ?_
  rotate_left
  · intro W hW
    go_simp
    try with_reducible rfl
  try simp only [Act.put, List.setIfInBounds_toArray, List.set_cons_zero, List.set_cons_succ]
  refine Reg.take 1 (v := ?_) rfl (by kernel_rfl) (fun _ _ _ h => h) rfl ?_ ?_
  rotate_left
  · intro W hW
    have q : W.cell? ⟨w.heap.size, 0, none⟩ = some (.int .i64 p) := (KB.out.below hW.old KB.out.lt).cell 0
    go_simp
    try with_reducible rfl
  try simp only [Act.put, List.setIfInBounds_toArray, List.set_cons_zero, List.set_cons_succ]
  refine Reg.take 2 (v := ?_) rfl (by kernel_rfl) (fun _ _ _ h => h) rfl ?_ ?_
  rotate_left
  · intro W hW
    go_simp
    try with_reducible rfl
  try simp only [Act.put, List.setIfInBounds_toArray, List.set_cons_zero, List.set_cons_succ]
  refine Reg.take 3 (v := ?_) rfl (by kernel_rfl) (fun _ _ _ h => h) rfl ?_ ?_
  rotate_left
  · intro W hW
    go_simp
    try with_reducible rfl
  try simp only [Act.put, List.setIfInBounds_toArray, List.set_cons_zero, List.set_cons_succ]
  refine Reg.take 4 (v := ?_) rfl (by kernel_rfl) (fun _ _ _ h => h) rfl ?_ ?_
  rotate_left
  · intro W hW
    go_simp
    try with_reducible rfl
  try simp only [Act.put, List.setIfInBounds_toArray, List.set_cons_zero, List.set_cons_succ]
  refine Reg.take 5 (v := ?_) rfl (by kernel_rfl) (fun _ _ _ h => h) rfl ?_ ?_
  rotate_left
  · intro W hW
    have q : W.cell? ⟨w.heap.size, 0, none⟩ = some (.int .i64 p) := (KB.out.below hW.old KB.out.lt).cell 0
    go_simp
    try with_reducible rfl
  try simp only [Act.put, List.setIfInBounds_toArray, List.set_cons_zero, List.set_cons_succ]
  refine Reg.take 6 (v := ?_) rfl (by kernel_rfl) (fun _ _ _ h => h) rfl ?_ ?_
  rotate_left
  · intro W hW
    go_simp
    try with_reducible rfl
  try simp only [Act.put, List.setIfInBounds_toArray, List.set_cons_zero, List.set_cons_succ]
  refine Reg.take 7 (v := ?_) rfl (by kernel_rfl) (fun _ _ _ h => h) rfl ?_ ?_
  rotate_left
  · intro W hW
    go_simp
    try with_reducible rfl
  try simp only [Act.put, List.setIfInBounds_toArray, List.set_cons_zero, List.set_cons_succ]
  refine Reg.take 8 (v := ?_) rfl (by kernel_rfl) (fun _ _ _ h => h) rfl ?_ ?_
  rotate_left
  · intro W hW
    go_simp
    try with_reducible rfl
  try simp only [Act.put, List.setIfInBounds_toArray, List.set_cons_zero, List.set_cons_succ]
  refine Reg.take 9 (v := ?_) rfl (by kernel_rfl) (fun _ _ _ h => h) rfl ?_ ?_
  rotate_left
  · intro W hW
    have q : W.cell? ⟨g, 0, none⟩ = some (.int .i64 s.n) := (HR.out.b.below hW.old HR.out.b.lt).cell 0
    go_simp
    try with_reducible rfl
  try simp only [Act.put, List.setIfInBounds_toArray, List.set_cons_zero, List.set_cons_succ]
  refine Reg.take 10 (v := ?_) rfl (by kernel_rfl) (fun _ _ _ h => h) rfl ?_ ?_
  rotate_left
  · intro W hW
    go_simp
    try with_reducible rfl
  try simp only [Act.put, List.setIfInBounds_toArray, List.set_cons_zero, List.set_cons_succ]
  refine Reg.take 11 (v := ?_) rfl (by kernel_rfl) (fun _ _ _ h => h) rfl ?_ ?_
  rotate_left
  · intro W hW
    go_simp
    try with_reducible rfl
  try simp only [Act.put, List.setIfInBounds_toArray, List.set_cons_zero, List.set_cons_succ]
  refine Reg.take 12 (v := ?_) rfl (by kernel_rfl) (fun _ _ _ h => h) rfl ?_ ?_
  rotate_left
  · intro W hW
    go_simp
    try with_reducible rfl
  try simp only [Act.put, List.setIfInBounds_toArray, List.set_cons_zero, List.set_cons_succ]
  refine Reg.done (by kernel_rfl) ?_
  have kx : W0.drew.cell? ⟨w.heap.size, 0, none⟩ = some (.int .i64 p) := KB.out.cell 0
  have HRd : Hid (Rf W0.drew g vc vr s ts) := HR.out.below (Below.refl _ W0).drew
  go_wp2_with fail
  refine (committed_any g vc vr s ts p _ HRd.out hlen).mono ?_
  rw [HPV.out]
  rintro e w' ⟨rfl, rfl⟩
  go_wp2_with fail
  obtain ⟨A0, c0, hv0, hs0⟩ := own_form HR.out.oc
  have HVC := Lib.hid hv0
  have HAP : Hid ((Value.slice A0 s.cs.length c0).ownBlock ≠ some g) := by rw [← HVC.out]; exact own_apart HR.out.oc HR.out.b (by decide)
  have HQA : Hid ((W0.alloc (.cells #[.int .i64 p, .int .u64 x] 39)).cell? ⟨g, 3, none⟩ = some (.slice A0 s.cs.length c0)) := by rw [← HVC.out]; exact (HR.out.b.alloc _).cell 3
  have qa : W0.drew.drew.cell? ⟨g, 3, none⟩ = some (.slice A0 s.cs.length c0) := by rw [← HVC.out]; exact HR.out.b.cell 3
  have qb := HQA.out
  have la : (loadRow 39 (.pointer (some ⟨w.heap.size, 0, none⟩))).run Try.prog W0.drew.drew = .ok (.agg #[.int .i64 p, .int .u64 x]) W0.drew.drew := load_tx KB.out rfl
  clear hv0 hs0 q2 kx hi1 hi2
  go_region_law (first
      | (refine step_append_sl _ (by rfl) (.tmp 36) (.tmp 38) 61 (by rfl) 39 i0 (.agg #[.int .i64 0, .int .u64 0]) 2 16 Try.underlying61 hi0 hz0 hz1 hz2 rfl (by decide) (.slice A0 s.cs.length c0) s.cs.length (cells2 s.cs) (by rfl) (by rw [← HVC.out]; exact own_frm HR.out.oc (((Frm.refl (fun _ => False) W0).drew.drew).alloc _) (fun _ _ g => g)) _ 1 1 [.int .i64 p, .int .u64 x] (by rfl) (new_tx _ _ _ _ rfl) (one2 _ _) (by unfold maxLen; omega) (by omega) ?_; intro v2 w2 hown2 hg2 hat2; obtain ⟨A2, c2, rfl, s2⟩ := own_form hown2; have kk2 := Lib.hid (Blk.grown (((HR.out.b.alloc _).drew).drew) hg2 HAP.out); have k2 : w2.cell? ⟨g, 3, none⟩ = some (.slice A0 s.cs.length c0) := (kk2.out.cell 3).trans (congrArg some HVC.out); have f2 : w2.frozen? ⟨g, 3, none⟩ = false := kk2.out.frozen 3))
  all_goals
    have EE : Hid (_ ∧ _ ∧ _) := rf_commit HR.out (((Frm.refl (fun _ => False) W0).alloc _).drew.drew) hown2 (by rw [HVC.out]; exact hg2) (by rw [HVC.out]; exact hat2)
    clear hown2 hg2 hat2 k2 f2 kk2 s2
    go_wp2_with fail
    go_ret
    exact rf_end BE.out EE.out

theorem commitR_any (g : Nat) (vc vr : Value) (s : St) (ts : List (Int × Int × Int)) (p x : Int) (w : World) (h : Rf w g vc vr s ts) (hlen : s.cs.length ≤ 100) :
    Calls Try.prog 15 #[.pointer (some ⟨g, 0, none⟩), .agg #[.int .i64 p, .int .u64 x]] w (RfPost g vc vr (com s p x) (.int .i64 (comE s p)) w) := by
  unfold com comE
  by_cases hi : inP s p = true
  · have hi2 := (inP_iff s p).1 hi
    by_cases hl : s.lock = true
    · simpa [hi, hl] using commitR_8 g vc vr s ts p x w h hi2 hl
    · have hl' : s.lock = false := by simpa using hl
      cases hf : findK s.cs p with
      | none => simpa [hi, hl'] using commitR_0 g vc vr s ts p x w h hi2 hl' hf hlen
      | some c => simpa [hi, hl'] using commitR_6 g vc vr s ts p x w h c hi2 hl' hf hlen
  · have hi' : inP s p = false := by simpa using hi
    have hi2 : ¬ (1 ≤ p ∧ p ≤ s.n) := fun e => hi ((inP_iff s p).2 e)
    by_cases h1 : p < 1
    · simpa [hi'] using commitR_2a g vc vr s ts p x w h h1
    · simpa [hi'] using commitR_2b g vc vr s ts p x w h h1 (by omega)

set_option maxRecDepth 100000 in
set_option maxHeartbeats 2000000 in
theorem lockR_8 (g : Nat) (vc vr : Value) (s : St) (ts : List (Int × Int × Int)) (w : World) (h : Rf w g vc vr s ts) (hl : s.lock = true) :
    Calls Try.prog 17 #[.pointer (some ⟨g, 0, none⟩)] w (RfPost g vc vr s (.int .i64 8) w) := by
  have HR := Lib.hid h
  have q2 : w.cell? ⟨g, 2, none⟩ = some (.bool true) := by have := h.b.cell 2; unfold rcells at this; rw [hl] at this; exact this
  have HL := Lib.hid hl
  clear hl h
  go_enter Try.func17, Try.ntmps17
  go_wp2_with fail
  go_ret
  exact rf_same HR.out (Below.refl _ _)

set_option maxRecDepth 100000 in
set_option maxHeartbeats 2000000 in
theorem lockR_23 (g : Nat) (vc vr : Value) (s : St) (ts : List (Int × Int × Int)) (w : World) (h : Rf w g vc vr s ts) (hl : s.lock = false) (hq : (s.cs.length : Int) < s.q) :
    Calls Try.prog 17 #[.pointer (some ⟨g, 0, none⟩)] w (RfPost g vc vr s (.int .i64 23) w) := by
  have HR := Lib.hid h
  have q2 : w.cell? ⟨g, 2, none⟩ = some (.bool false) := by have := h.b.cell 2; unfold rcells at this; rw [hl] at this; exact this
  have HL := Lib.hid hl
  clear hl h
  go_enter Try.func17, Try.ntmps17
  go_wp2_with fail
  obtain ⟨A0, c0, hv0, _⟩ := own_form HR.out.oc
  have HVC := Lib.hid hv0
  clear hv0
  have q3 : Hid (∀ W, Below w.heap.size w W → W.cell? ⟨g, 3, none⟩ = some (.slice A0 s.cs.length c0)) := fun W hb => by rw [← HVC.out]; exact (HR.out.b.below hb HR.out.b.lt).cell 3
  clear q2
  refine Reg.start (by kernel_rfl) ?_
  refine Reg.take 0 (v := ?_) rfl (by kernel_rfl) (fun _ _ _ h => h) rfl ?_ ?_
  rotate_left
  · intro W hW
    go_simp
    try with_reducible rfl
  try simp only [Act.put, List.setIfInBounds_toArray, List.set_cons_zero, List.set_cons_succ]
  refine Reg.take 1 (v := ?_) rfl (by kernel_rfl) (fun _ _ _ h => h) rfl ?_ ?_
  rotate_left
  · intro W hW
    go_simp
    try with_reducible rfl
  try simp only [Act.put, List.setIfInBounds_toArray, List.set_cons_zero, List.set_cons_succ]
  refine Reg.take 2 (v := ?_) rfl (by kernel_rfl) (fun _ _ _ h => h) rfl ?_ ?_
  rotate_left
  · intro W hW
    go_simp
    try with_reducible rfl
  try simp only [Act.put, List.setIfInBounds_toArray, List.set_cons_zero, List.set_cons_succ]
  refine Reg.take 3 (v := ?_) rfl (by kernel_rfl) (fun _ _ _ h => h) rfl ?_ ?_
  rotate_left
  · intro W hW
    have q := q3.out W hW.old
    go_simp
    try with_reducible rfl
  try simp only [Act.put, List.setIfInBounds_toArray, List.set_cons_zero, List.set_cons_succ]
  refine Reg.take 4 (v := ?_) rfl (by kernel_rfl) (fun _ _ _ h => h) rfl ?_ ?_
  rotate_left
  · intro W hW
    go_simp
    try with_reducible rfl
  try simp only [Act.put, List.setIfInBounds_toArray, List.set_cons_zero, List.set_cons_succ]
  refine Reg.take 5 (v := ?_) rfl (by kernel_rfl) (fun _ _ _ h => h) rfl ?_ ?_
  rotate_left
  · intro W hW
    go_simp
    try with_reducible rfl
  try simp only [Act.put, List.setIfInBounds_toArray, List.set_cons_zero, List.set_cons_succ]
  refine Reg.take 6 (v := ?_) rfl (by kernel_rfl) (fun _ _ _ h => h) rfl ?_ ?_
  rotate_left
  · intro W hW
    go_simp
    try with_reducible rfl
  try simp only [Act.put, List.setIfInBounds_toArray, List.set_cons_zero, List.set_cons_succ]
  refine Reg.take 7 (v := ?_) rfl (by kernel_rfl) (fun _ _ _ h => h) rfl ?_ ?_
  rotate_left
  · intro W hW
    go_simp
    try with_reducible rfl
  try simp only [Act.put, List.setIfInBounds_toArray, List.set_cons_zero, List.set_cons_succ]
  refine Reg.take 8 (v := ?_) rfl (by kernel_rfl) (fun _ _ _ h => h) rfl ?_ ?_
  rotate_left
  · intro W hW
    have q : W.cell? ⟨g, 1, none⟩ = some (.int .i64 s.q) := (HR.out.b.below hW.old HR.out.b.lt).cell 1
    go_simp
    try with_reducible rfl
  try simp only [Act.put, List.setIfInBounds_toArray, List.set_cons_zero, List.set_cons_succ]
  refine Reg.take 9 (v := ?_) rfl (by kernel_rfl) (fun _ _ _ h => h) rfl ?_ ?_
  rotate_left
  · intro W hW
    go_simp
    try with_reducible rfl
  try simp only [Act.put, List.setIfInBounds_toArray, List.set_cons_zero, List.set_cons_succ]
  refine Reg.take 10 (v := ?_) rfl (by kernel_rfl) (fun _ _ _ h => h) rfl ?_ ?_
  rotate_left
  · intro W hW
    go_simp
    try with_reducible rfl
  try simp only [Act.put, List.setIfInBounds_toArray, List.set_cons_zero, List.set_cons_succ]
  refine Reg.done (by kernel_rfl) ?_
  go_wp2_with fail
  go_ret
  exact rf_same HR.out (Below.refl _ w).drew

set_option maxRecDepth 100000 in
set_option maxHeartbeats 2000000 in
theorem lockR_0 (g : Nat) (vc vr : Value) (s : St) (ts : List (Int × Int × Int)) (w : World) (h : Rf w g vc vr s ts) (hl : s.lock = false) (hq : ¬ (s.cs.length : Int) < s.q) :
    Calls Try.prog 17 #[.pointer (some ⟨g, 0, none⟩)] w (RfPost g vc vr ⟨s.n, s.q, true, s.cs, s.rs⟩ (.int .i64 0) w) := by
  have hq2 : s.q ≤ (s.cs.length : Int) := by omega
  clear hq
  have HR := Lib.hid h
  have q2 : w.cell? ⟨g, 2, none⟩ = some (.bool false) := by have := h.b.cell 2; unfold rcells at this; rw [hl] at this; exact this
  have HL := Lib.hid hl
  clear hl h
  go_enter Try.func17, Try.ntmps17
  go_wp2_with fail
  obtain ⟨A0, c0, hv0, _⟩ := own_form HR.out.oc
  have HVC := Lib.hid hv0
  clear hv0
  have q3 : Hid (∀ W, Below w.heap.size w W → W.cell? ⟨g, 3, none⟩ = some (.slice A0 s.cs.length c0)) := fun W hb => by rw [← HVC.out]; exact (HR.out.b.below hb HR.out.b.lt).cell 3
  clear q2
  refine Reg.start (by kernel_rfl) ?_
  refine Reg.take 0 (v := ?_) rfl (by kernel_rfl) (fun _ _ _ h => h) rfl ?_ ?_
  rotate_left
  · intro W hW
    go_simp
    try with_reducible rfl
  try simp only [Act.put, List.setIfInBounds_toArray, List.set_cons_zero, List.set_cons_succ]
  refine Reg.take 1 (v := ?_) rfl (by kernel_rfl) (fun _ _ _ h => h) rfl ?_ ?_
  rotate_left
  · intro W hW
    go_simp
    try with_reducible rfl
  try simp only [Act.put, List.setIfInBounds_toArray, List.set_cons_zero, List.set_cons_succ]
  refine Reg.take 2 (v := ?_) rfl (by kernel_rfl) (fun _ _ _ h => h) rfl ?_ ?_
  rotate_left
  · intro W hW
    go_simp
    try with_reducible rfl
  try simp only [Act.put, List.setIfInBounds_toArray, List.set_cons_zero, List.set_cons_succ]
  refine Reg.take 3 (v := ?_) rfl (by kernel_rfl) (fun _ _ _ h => h) rfl ?_ ?_
  rotate_left
  · intro W hW
    have q := q3.out W hW.old
    go_simp
    try with_reducible rfl
  try simp only [Act.put, List.setIfInBounds_toArray, List.set_cons_zero, List.set_cons_succ]
  refine Reg.take 4 (v := ?_) rfl (by kernel_rfl) (fun _ _ _ h => h) rfl ?_ ?_
  rotate_left
  · intro W hW
    go_simp
    try with_reducible rfl
  try simp only [Act.put, List.setIfInBounds_toArray, List.set_cons_zero, List.set_cons_succ]
  refine Reg.take 5 (v := ?_) rfl (by kernel_rfl) (fun _ _ _ h => h) rfl ?_ ?_
  rotate_left
  · intro W hW
    go_simp
    try with_reducible rfl
  try simp only [Act.put, List.setIfInBounds_toArray, List.set_cons_zero, List.set_cons_succ]
  refine Reg.take 6 (v := ?_) rfl (by kernel_rfl) (fun _ _ _ h => h) rfl ?_ ?_
  rotate_left
  · intro W hW
    go_simp
    try with_reducible rfl
  try simp only [Act.put, List.setIfInBounds_toArray, List.set_cons_zero, List.set_cons_succ]
  refine Reg.take 7 (v := ?_) rfl (by kernel_rfl) (fun _ _ _ h => h) rfl ?_ ?_
  rotate_left
  · intro W hW
    go_simp
    try with_reducible rfl
  try simp only [Act.put, List.setIfInBounds_toArray, List.set_cons_zero, List.set_cons_succ]
  refine Reg.take 8 (v := ?_) rfl (by kernel_rfl) (fun _ _ _ h => h) rfl ?_ ?_
  rotate_left
  · intro W hW
    have q : W.cell? ⟨g, 1, none⟩ = some (.int .i64 s.q) := (HR.out.b.below hW.old HR.out.b.lt).cell 1
    go_simp
    try with_reducible rfl
  try simp only [Act.put, List.setIfInBounds_toArray, List.set_cons_zero, List.set_cons_succ]
  refine Reg.take 9 (v := ?_) rfl (by kernel_rfl) (fun _ _ _ h => h) rfl ?_ ?_
  rotate_left
  · intro W hW
    go_simp
    try with_reducible rfl
  try simp only [Act.put, List.setIfInBounds_toArray, List.set_cons_zero, List.set_cons_succ]
  refine Reg.take 10 (v := ?_) rfl (by kernel_rfl) (fun _ _ _ h => h) rfl ?_ ?_
  rotate_left
  · intro W hW
    go_simp
    try with_reducible rfl
  try simp only [Act.put, List.setIfInBounds_toArray, List.set_cons_zero, List.set_cons_succ]
  refine Reg.done (by kernel_rfl) ?_
  have q5 : w.drew.cell? ⟨g, 2, none⟩ = some (.bool s.lock) := HR.out.b.cell 2
  have z5 : w.drew.frozen? ⟨g, 2, none⟩ = false := HR.out.b.frozen 2
  have hS : Frm (· = g) w (w.drew.setCell ⟨g, 2, none⟩ (.bool true)) := ((Frm.refl (· = g) w).drew).setCell (fun _ => rfl) _
  have HE : Hid (Rf (w.drew.setCell ⟨g, 2, none⟩ (.bool true)) g vc vr ⟨s.n, s.q, true, s.cs, s.rs⟩ ts) := ⟨(HR.out.b.drew).put 2 _, own_frm HR.out.oc hS fun k hk e => own_apart HR.out.oc HR.out.b (by decide) (by rw [hk, e]), own_frm HR.out.orr hS fun k hk e => own_apart HR.out.orr HR.out.b (by decide) (by rw [hk, e]), HR.out.ht⟩
  have FE2 : Hid (Frm (ownR g vc vr) w (w.drew.setCell ⟨g, 2, none⟩ (.bool true))) := hS.weaken fun i _ e => .inl e
  clear hS
  go_wp2_with fail
  go_ret
  exact ⟨rfl, vc, vr, ts, HE.out, FE2.out, fun _ hk => .inl hk⟩

theorem lockR_any (g : Nat) (vc vr : Value) (s : St) (ts : List (Int × Int × Int)) (w : World) (h : Rf w g vc vr s ts) : Calls Try.prog 17 #[.pointer (some ⟨g, 0, none⟩)] w (RfPost g vc vr (lock s) (.int .i64 (lockE s)) w) := by
  unfold lock lockE
  by_cases hl : s.lock = true
  · simpa [hl] using lockR_8 g vc vr s ts w h hl
  · have hl' : s.lock = false := by simpa using hl
    by_cases hq : (s.cs.length : Int) < s.q
    · simpa [hl', hq] using lockR_23 g vc vr s ts w h hl' hq
    · simpa [hl', hq] using lockR_0 g vc vr s ts w h hl' hq

set_option maxRecDepth 100000 in
set_option maxHeartbeats 2000000 in
theorem lockedR_any (g : Nat) (vc vr : Value) (s : St) (ts : List (Int × Int × Int)) (w : World) (h : Rf w g vc vr s ts) :
    Calls Try.prog 26 #[.pointer (some ⟨g, 0, none⟩)] w fun e w' => e = .returned (.bool s.lock) ∧ w = w' := by
  have q2 : w.cell? ⟨g, 2, none⟩ = some (.bool s.lock) := h.b.cell 2
  generalize s.lock = b at *
  clear h
  go_enter Try.func26, Try.ntmps26
  go_wp2_with fail
  go_ret
  exact ⟨rfl, rfl⟩

def NewRf (n q : Int) (w : World) (e : Ending) (w' : World) : Prop := ∃ g, e = .returned (.tuple #[.pointer (some ⟨g, 0, none⟩), .int .i64 0]) ∧ Rf w' g (.slice none 0 0) (.slice none 0 0) ⟨n, q, false, [], []⟩ [] ∧ w.heap.size ≤ g ∧ Below w.heap.size w w'
set_option maxRecDepth 100000 in
set_option maxHeartbeats 2000000 in
theorem newR_yes (n q : Int) (w : World) (h1 : 1 ≤ n) (h2 : n ≤ 8) (h3 : 1 ≤ q) (h4 : q ≤ n) : Calls Try.prog 10 #[.int .i64 n, .int .i64 q] w (NewRf n q w) := by
  go_enter Try.func10, Try.ntmps10
  go_wp2_with fail
  go_ret2
  exact ⟨w.heap.size, rfl, ⟨Blk.new w 64 (rcells ⟨n, q, false, [], []⟩ (.slice none 0 0) (.slice none 0 0)), World.ownsRow_nil _ _ _ _, World.ownsRow_nil _ _ _ _, rfl⟩, Nat.le_refl _, (Below.refl _ _).alloc (Nat.le_refl _) _⟩

set_option maxRecDepth 100000 in
set_option maxHeartbeats 2000000 in
theorem newR_no (n q : Int) (w : World) (h : newOk n q = false) : Calls Try.prog 10 #[.int .i64 n, .int .i64 q] w fun e w' => e = .returned (.tuple #[.pointer none, .int .i64 2]) ∧ w = w' := by
  have hh : ¬ (1 ≤ n ∧ n ≤ 8 ∧ 1 ≤ q ∧ q ≤ n) := by rw [← newOk_iff, h]; simp
  clear h
  by_cases h1 : 1 ≤ n
  · by_cases h2 : n ≤ 8
    · by_cases h3 : 1 ≤ q
      · have h4 : n < q := by omega
        clear hh
        go_enter Try.func10, Try.ntmps10
        go_wp2_with fail
        go_ret2
        exact ⟨rfl, rfl⟩
      · have h3' : q < 1 := by omega
        clear hh h3
        go_enter Try.func10, Try.ntmps10
        go_wp2_with fail
        go_ret2
        exact ⟨rfl, rfl⟩
    · have h2' : 8 < n := by omega
      clear hh h2
      go_enter Try.func10, Try.ntmps10
      go_wp2_with fail
      go_ret2
      exact ⟨rfl, rfl⟩
  · have h1' : n < 1 := by omega
    clear hh h1
    go_enter Try.func10, Try.ntmps10
    go_wp2_with fail
    go_ret2
    exact ⟨rfl, rfl⟩
end Go.Proofs.Ytdgekhbmcmojdaa.Cm
