/-
  The plain law of changed journals, and the walk of collides. Conditions: the lists of records lie in memory.
-/
import Derived.Test.YthpmngdpgniehaaJrSt
namespace Go.Proofs.Ythpmngdpgniehaa.Jr
open Go.RowKit Go.Proofs.Ythpmngdpgniehaa.Mem Go.Proofs.Ythpmngdpgniehaa.Wr Go.Proofs.Ythpmngdpgniehaa.Opn
attribute [local go_sem ↓] exec_load_rec exec_store_rec

/-! ### what is read is within the limits -/
theorem rT_most {bs : List UInt8} {s : RS} {most : Int} (h : s.ok bs) (hm : 0 ≤ most) : ((rT bs most s).1.length : Int) ≤ most := by
  obtain ⟨_, _, _, d⟩ := rLen_fine most h
  unfold rT
  split
  · rename_i he
    have := (d he).2.2
    split
    · show (([] : List UInt8).length : Int) ≤ most
      simpa using hm
    · show (((bs.drop (rLen bs most s).2.pos).take (rLen bs most s).1).length : Int) ≤ most
      rw [List.length_take]
      omega
  · show (([] : List UInt8).length : Int) ≤ most
    simpa using hm
theorem rIs_most {bs : List UInt8} {s : RS} {most : Int} (h : s.ok bs) (hm : 0 ≤ most) : ((rIs bs most s).1.length : Int) ≤ most := by
  obtain ⟨a, _, _, d⟩ := rLen_fine most h
  unfold rIs
  split
  · rename_i he
    have h1 := (d he).2.2
    obtain ⟨_, _, _, _, e1, e2⟩ := rL_fine (rLen bs most s).1 (rLen bs most s).2 a he
    by_cases h0 : (rL bs (rLen bs most s).1 (rLen bs most s).2).2.err = 0
    · rw [e1 h0]
      omega
    · rw [e2 h0]
      simpa using hm
  · show (([] : List Int).length : Int) ≤ most
    simpa using hm
theorem got_within (bs : List UInt8) : Within (got bs) := by
  have h6 := rT_most (most := mName) (q5_ok bs) (by decide)
  have h7 := rT_most (most := mText) (q6_ok bs) (by decide)
  have h8 := rIs_most (most := mList) (q7_ok bs) (by decide)
  have h11 := rT_most (most := mName) (q10_ok bs) (by decide)
  have h12 := rIs_most (most := mList) (q11_ok bs) (by decide)
  refine ⟨?_, ?_, ?_, ?_, ?_⟩
  · show (q6 bs).1.length ≤ 24
    unfold mName at h6
    unfold q6 mName
    omega
  · show (q7 bs).1.length ≤ 32768
    unfold mText at h7
    unfold q7 mText
    omega
  · show (q8 bs).1.length ≤ 256
    unfold mList at h8
    unfold q8 mList
    omega
  · show (q11 bs).1.length ≤ 24
    unfold mName at h11
    unfold q11 mName
    omega
  · show (q12 bs).1.length ≤ 256
    unfold mList at h12
    unfold q12 mList
    omega
theorem dec_good {b : List UInt8} (hb : b.length ≤ 9223372036854775807) (h : decErr b = 0) : Good (dec b) := by
  have e : dec b = got b := by unfold dec; rw [if_pos h]
  rw [e]
  exact ⟨got_fit b hb, got_within b⟩
theorem readG_good (bs : List UInt8) (hb : bs.length ≤ 9223372036854775807) : ∀ (f p h : Nat) (out : List Rec), p ≤ bs.length → (∀ r ∈ out, Good r) → ∀ r ∈ (readG bs f p h out).1, Good r
  | 0, _, _, _, _, ho => ho
  | f + 1, p, h, out, hp, ho => by
    by_cases hlt : p < bs.length
    · by_cases h4 : 4096 ≤ out.length
      · rw [readG_full (by omega) hlt h4]
        exact ho
      · cases hn : nextN bs p with
        | error e =>
          rw [readG_err (by omega) hlt h4 (stepN_err hn)]
          exact ho
        | ok q =>
          obtain ⟨x, m⟩ := q
          obtain ⟨b1, _, _, _, b5⟩ := nextN_back hp hn
          cases hc : contN x m h with
          | error e =>
            rw [readG_err (by omega) hlt h4 (by rw [stepN_ok hn, hc])]
            exact ho
          | ok q =>
            obtain ⟨r, k, h2⟩ := q
            obtain ⟨rfl, c2, c3, c4, c5⟩ := contN_back hc
            rw [readG_next hlt h4 (by rw [stepN_ok hn, hc])]
            refine readG_good bs hb f k h2 _ b1 fun s hs => ?_
            rcases List.mem_append.1 hs with h | h
            · exact ho s h
            · rw [List.mem_singleton.1 h, c4]
              refine dec_good ?_ c5
              have := cont_len ‹Nat› r
              rw [c2, cont_len] at b5
              omega
    · rw [readG_end hlt]
      exact ho
theorem readN_good {bs : List UInt8} (hb : bs.length ≤ 9223372036854775807) : ∀ r ∈ (readN bs).1, Good r := readG_good bs hb _ _ _ _ (Nat.zero_le _) (fun r hr => by cases hr)

/-! ### collisions -/
def items : Nat → List Rec → List (Nat × List UInt8 × Nat)
  | _, [] => []
  | h, r :: rs => (h, enc r, hashN h (enc r)) :: items (hashN h (enc r)) rs
theorem items_append : ∀ (rs ss : List Rec) (h : Nat), items h (rs ++ ss) = items h rs ++ items (hashes h rs) ss
  | [], _, _ => rfl
  | r :: rs, ss, h => by rw [List.cons_append, items, items, hashes, items_append rs ss, List.cons_append]
theorem items_snoc (h : Nat) (rs : List Rec) (r : Rec) : items h (rs ++ [r]) = items h rs ++ [(hashes h rs, enc r, hashN (hashes h rs) (enc r))] := by rw [items_append]; rfl
theorem items_len : ∀ (rs : List Rec) (h : Nat), (items h rs).length = rs.length
  | [], _ => rfl
  | r :: rs, h => by rw [items, List.length_cons, List.length_cons, items_len rs]
theorem snoc_of {x : List Rec} (h : x ≠ []) : ∃ x' r, x = x' ++ [r] := ⟨x.dropLast, x.getLast h, (List.dropLast_concat_getLast h).symm⟩
theorem no_col : ∀ (n : Nat) (x y : List Rec), x.length = n → (∀ p ∈ items 0 x, ∀ q ∈ items 0 y, p.2.2 = q.2.2 → p.1 = q.1 ∧ p.2.1 = q.2.1) → hashes 0 x = hashes 0 y → (jbytes 0 x).length = (jbytes 0 y).length → jbytes 0 x = jbytes 0 y
  | 0, x, y, hn, _, _, hl => by
    obtain rfl : x = [] := List.eq_nil_of_length_eq_zero hn
    have h1 := jbytes_more y 0
    have h2 : (jbytes 0 ([] : List Rec)).length = 0 := rfl
    obtain rfl : y = [] := List.eq_nil_of_length_eq_zero (by omega)
    rfl
  | n + 1, x, y, hn, hc, hh, hl => by
    obtain ⟨x', r, rfl⟩ := snoc_of (x := x) (by intro e; rw [e] at hn; simp at hn)
    have h1 := jbytes_more (x' ++ [r]) 0
    have hy : y ≠ [] := by
      intro e
      subst e
      have h2 : (jbytes 0 ([] : List Rec)).length = 0 := rfl
      simp only [List.length_append, List.length_cons, List.length_nil] at h1
      omega
    obtain ⟨y', s, rfl⟩ := snoc_of hy
    rw [hashes_snoc, hashes_snoc] at hh
    obtain ⟨e1, e2⟩ := hc (hashes 0 x', enc r, hashN (hashes 0 x') (enc r)) (by rw [items_snoc]; simp) (hashes 0 y', enc s, hashN (hashes 0 y') (enc s)) (by rw [items_snoc]; simp) hh
    have e1 : hashes 0 x' = hashes 0 y' := e1
    have e2 : enc r = enc s := e2
    have e3 : cont (hashes 0 x') r = cont (hashes 0 y') s := by unfold cont; rw [e1, e2]
    rw [jbytes_snoc, jbytes_snoc, e3] at hl ⊢
    have := no_col n x' y' (by simpa using hn) (fun p hp q hq => hc p (by rw [items_snoc]; simp [hp]) q (by rw [items_snoc]; simp [hq])) e1 (by rw [List.length_append, List.length_append] at hl; omega)
    rw [this]
/-- two inputs of the chains that differ and have the same value. -/
def Hit (P : List (Nat × List UInt8 × Nat)) (i k : Nat) : Prop := ∃ p q, P[i]? = some p ∧ P[k]? = some q ∧ p.2.2 = q.2.2 ∧ (p.1 ≠ q.1 ∨ p.2.1 ≠ q.2.1)
theorem col_of {x y : List Rec} (hh : hashes 0 x = hashes 0 y) (hl : (jbytes 0 x).length = (jbytes 0 y).length) (hne : jbytes 0 x ≠ jbytes 0 y) : ∃ i k, k < i ∧ Hit (items 0 x ++ items 0 y) i k := by
  refine Classical.byContradiction fun hno => hne (no_col _ x y rfl (fun p hp q hq hs => ?_) hh hl)
  refine Classical.byContradiction fun hd => hno ?_
  obtain ⟨k, hk, ek⟩ := List.mem_iff_getElem.1 hp
  obtain ⟨j, hj, ej⟩ := List.mem_iff_getElem.1 hq
  refine ⟨(items 0 x).length + j, k, by omega, q, p, ?_, ?_, hs.symm, ?_⟩
  · rw [List.getElem?_append_right (Nat.le_add_right _ _), Nat.add_sub_cancel_left, List.getElem?_eq_getElem hj, ej]
  · rw [List.getElem?_append_left hk, List.getElem?_eq_getElem hk, ek]
  · refine Classical.byContradiction fun h => hd ?_
    refine ⟨Classical.byContradiction fun h2 => h (.inl fun e => h2 e.symm), Classical.byContradiction fun h2 => h (.inr fun e => h2 e.symm)⟩

/-! ### the walk -/
def pv (P : List (Nat × List UInt8 × Nat)) : List Value := P.map fun p => .int .u64 (p.1 : Int)
def sv (P : List (Nat × List UInt8 × Nat)) : List Value := P.map fun p => .int .u64 (p.2.2 : Int)
def tv (P : List (Nat × List UInt8 × Nat)) : List Value := P.map fun p => .string ⟨p.2.1.toArray⟩
theorem pv_at {P : List (Nat × List UInt8 × Nat)} {i : Nat} {p : Nat × List UInt8 × Nat} (h : P[i]? = some p) : (pv P)[i]? = some (.int .u64 (p.1 : Int)) := by unfold pv; rw [List.getElem?_map, h]; rfl
theorem sv_at {P : List (Nat × List UInt8 × Nat)} {i : Nat} {p : Nat × List UInt8 × Nat} (h : P[i]? = some p) : (sv P)[i]? = some (.int .u64 (p.2.2 : Int)) := by unfold sv; rw [List.getElem?_map, h]; rfl
theorem tv_at {P : List (Nat × List UInt8 × Nat)} {i : Nat} {p : Nat × List UInt8 × Nat} (h : P[i]? = some p) : (tv P)[i]? = some (.string ⟨p.2.1.toArray⟩) := by unfold tv; rw [List.getElem?_map, h]; rfl
theorem pv_app (P : List (Nat × List UInt8 × Nat)) (p : Nat × List UInt8 × Nat) : pv (P ++ [p]) = pv P ++ [.int .u64 (p.1 : Int)] := by simp [pv]
theorem sv_app (P : List (Nat × List UInt8 × Nat)) (p : Nat × List UInt8 × Nat) : sv (P ++ [p]) = sv P ++ [.int .u64 (p.2.2 : Int)] := by simp [sv]
theorem tv_app (P : List (Nat × List UInt8 × Nat)) (p : Nat × List UInt8 × Nat) : tv (P ++ [p]) = tv P ++ [.string ⟨p.2.1.toArray⟩] := by simp [tv]
theorem cl_u64 : (Try.prog.info? 23).map (fun i => (i.zero, i.size, i.bytes)) = some (some (.int .u64 0), 1, 8) := by kernel_rfl
theorem cl_str : (Try.prog.info? 9).map (fun i => (i.zero, i.size, i.bytes)) = some (some (.string ⟨#[]⟩), 1, 16) := by kernel_rfl
/-- three rows that the call makes. -/
structure Co (w : World) (ps ss ts : List Value) (v5 v6 v7 : Value) (W : World) : Prop where
  o5 : W.ownsRow 0 23 1 v5 ps.length ps
  o6 : W.ownsRow 0 23 1 v6 ss.length ss
  o7 : W.ownsRow 0 9 1 v7 ts.length ts
  n5 : ∀ k, v5.ownBlock = some k → w.heap.size ≤ k
  n6 : ∀ k, v6.ownBlock = some k → w.heap.size ≤ k
  n7 : ∀ k, v7.ownBlock = some k → w.heap.size ≤ k
  a56 : ∀ k, v5.ownBlock = some k → v6.ownBlock ≠ some k
  old : Below w.heap.size w W
section
variable {w W W' W1 w2 : World} {ps ss ts : List Value} {v5 v6 v7 v : Value} {u : Value}
theorem Co.below (c : Co w ps ss ts v5 v6 v7 W) (hb : Below W.heap.size W W') : Co w ps ss ts v5 v6 v7 W' :=
  ⟨own_frm c.o5 (frm_none hb) (fun _ _ f => f), own_frm c.o6 (frm_none hb) (fun _ _ f => f), own_frm c.o7 (frm_none hb) (fun _ _ f => f), c.n5, c.n6, c.n7, c.a56, c.old.trans (hb.mono c.old.size)⟩
theorem Co.swap (c : Co w ps ss ts v5 v6 v7 W) : Co w ss ps ts v6 v5 v7 W := ⟨c.o6, c.o5, c.o7, c.n6, c.n5, c.n7, fun k h6 h5 => c.a56 k h5 h6, c.old⟩
theorem rows_apart2 {b b' : Nat} {e e' : TypeId} {z z' n n' : Nat} {v v' : Value} {xs xs' : List Value} (h : w.ownsRow b e z v n xs) (h' : w.ownsRow b' e' z' v' n' xs') (hne : e ≠ e') : ∀ k, v.ownBlock = some k → v'.ownBlock ≠ some k := by
  intro k hk hk'
  rcases h.2 with ⟨rfl, _⟩ | ⟨g, cap, cur, rfl, _, h1, _⟩
  · simp [Value.ownBlock] at hk
  · rcases h'.2 with ⟨rfl, _⟩ | ⟨g', cap', cur', rfl, _, h2, _⟩
    · simp [Value.ownBlock] at hk'
    · have e1 : g = k := by simpa [Value.ownBlock] using hk
      have e2 : g' = k := by simpa [Value.ownBlock] using hk'
      subst e1 e2
      rw [h1] at h2
      injection h2 with h2
      injection h2 with _ h2
      exact hne h2
theorem Co.push5 (c : Co w ps ss ts v5 v6 v7 W) (hb : Below W.heap.size W W1) (own2 : w2.ownsRow 0 23 1 v (ps.length + 1) (ps ++ [u])) (hg : W1.grownBy w2 v5.ownBlock) (hat : v.ownBlock = v5.ownBlock ∨ v.ownBlock = some W1.heap.size) : Co w (ps ++ [u]) ss ts v v6 v7 w2 := by
  have hf : Frm (fun k => v5.ownBlock = some k) W w2 := ((frm_none hb).weaken fun _ _ f => f.elim).trans (Frm.of_grown hg fun i hi => hi) (fun _ _ h => h)
  have hs := hb.size
  have h0 := c.old.size
  refine ⟨by rw [List.length_append]; exact own2, own_frm c.o6 hf (fun k hk e => c.a56 k e hk), own_frm c.o7 hf (fun k hk e => rows_apart2 c.o5 c.o7 (by decide) k e hk), fun k hk => ?_, c.n6, c.n7, fun k hk h6 => ?_, c.old.trans (hf.below h0 fun i hi e => by have := c.n5 i e; omega)⟩
  · rcases hat with e | e
    · exact c.n5 k (by rw [← e]; exact hk)
    · rw [e] at hk
      injection hk with hk
      omega
  · rcases hat with e | e
    · exact c.a56 k (by rw [← e]; exact hk) h6
    · rw [e] at hk
      injection hk with hk
      have := (c.o6.lt k h6).2
      omega
theorem Co.push6 (c : Co w ps ss ts v5 v6 v7 W) (hb : Below W.heap.size W W1) (own2 : w2.ownsRow 0 23 1 v (ss.length + 1) (ss ++ [u])) (hg : W1.grownBy w2 v6.ownBlock) (hat : v.ownBlock = v6.ownBlock ∨ v.ownBlock = some W1.heap.size) : Co w ps (ss ++ [u]) ts v5 v v7 w2 := (c.swap.push5 hb own2 hg hat).swap
theorem Co.push7 (c : Co w ps ss ts v5 v6 v7 W) (hb : Below W.heap.size W W1) (own2 : w2.ownsRow 0 9 1 v (ts.length + 1) (ts ++ [u])) (hg : W1.grownBy w2 v7.ownBlock) (hat : v.ownBlock = v7.ownBlock ∨ v.ownBlock = some W1.heap.size) : Co w ps ss (ts ++ [u]) v5 v6 v w2 := by
  have hf : Frm (fun k => v7.ownBlock = some k) W w2 := ((frm_none hb).weaken fun _ _ f => f.elim).trans (Frm.of_grown hg fun i hi => hi) (fun _ _ h => h)
  have hs := hb.size
  have h0 := c.old.size
  refine ⟨own_frm c.o5 hf (fun k hk e => rows_apart2 c.o5 c.o7 (by decide) k hk e), own_frm c.o6 hf (fun k hk e => rows_apart2 c.o6 c.o7 (by decide) k hk e), by rw [List.length_append]; exact own2, c.n5, c.n6, fun k hk => ?_, c.a56, c.old.trans (hf.below h0 fun i hi e => by have := c.n7 i e; omega)⟩
  rcases hat with e | e
  · exact c.n7 k (by rw [← e]; exact hk)
  · rw [e] at hk
    injection hk with hk
    omega
theorem one_cell (W : World) (u : Value) (t : TypeId) : Sl (W.alloc (.cells #[u] t)) 1 (some ⟨W.heap.size, 0, none⟩) 1 [u] :=
  ⟨rfl, fun _ => ⟨W.heap.size, 0, rfl, fun j x hx => by rw [World.cell?_alloc_mark]; simpa using hx⟩⟩
end
/-- the items behind o of the two lists. -/
def ends (x y : List Rec) : Nat → List (Nat × List UInt8 × Nat)
  | 0 => []
  | 1 => items 0 x
  | _ => items 0 x ++ items 0 y
def CoR (w : World) (P : List (Nat × List UInt8 × Nat)) (v5 v6 v7 : Value) (W : World) : Prop := Co w (pv P) (sv P) (tv P) v5 v6 v7 W
theorem co_none (w : World) : CoR w [] (.slice none 0 0) (.slice none 0 0) (.slice none 0 0) w :=
  ⟨World.ownsRow_nil _ _ _ _, World.ownsRow_nil _ _ _ _, World.ownsRow_nil _ _ _ _, (fun k hk => by cases hk), (fun k hk => by cases hk), (fun k hk => by cases hk), (fun k hk => by cases hk), Below.refl _ _⟩
set_option maxRecDepth 100000 in
set_option maxHeartbeats 16000000 in
theorem collides_any (x y : List Rec) (A B : Option Addr) (nx ny ca cb : Nat) (w : World) (hx : x.length = nx) (hy : y.length = ny) (hax : RecSl w A x) (hby : RecSl w B y) (hgx : ∀ r ∈ x, Good r) (hgy : ∀ r ∈ y, Good r) (hnx : nx ≤ 100000000) (hny : ny ≤ 100000000) (hcol : ∃ i k, k < i ∧ Hit (items 0 x ++ items 0 y) i k) :
    Calls Try.prog 28 #[.slice A nx ca, .slice B ny cb] w (YesB w) := by
  obtain ⟨i5, hi5, hz50, hz51, hz52⟩ := info_parts cl_u64
  obtain ⟨i7, hi7, hz70, hz71, hz72⟩ := info_parts cl_str
  have HCol := Lib.hid hcol
  obtain ⟨W0, hW0⟩ : ∃ W0, W0 = w.alloc (.cells #[.slice A nx ca, .slice B ny cb] 29) := ⟨_, rfl⟩
  have KS : Hid (Blk W0 w.heap.size 29 #[.slice A nx ca, .slice B ny cb]) := by rw [hW0]; exact Blk.new _ _ _
  have BE : Hid (Below w.heap.size w W0) := by rw [hW0]; exact (Below.refl _ w).alloc (Nat.le_refl _) _
  have HPick : Hid (∀ o, o < 2 → ∃ l A' n' c', #[Value.slice A nx ca, Value.slice B ny cb][o]? = some (.slice A' n' c') ∧ l.length = n' ∧ n' ≤ 100000000 ∧ RecSl W0 A' l ∧ (∀ r ∈ l, Good r) ∧ ends x y (o + 1) = ends x y o ++ items 0 l ∧ (ends x y o).length ≤ 100000000) := Lib.hid (fun o ho => by
    rcases (by omega : o = 0 ∨ o = 1) with rfl | rfl
    · exact ⟨x, A, nx, ca, rfl, hx, hnx, hax.below BE.out (Nat.le_refl _), hgx, rfl, Nat.zero_le _⟩
    · exact ⟨y, B, ny, cb, rfl, hy, hny, hby.below BE.out (Nat.le_refl _), hgy, rfl, by show (items 0 x).length ≤ _; rw [items_len]; omega⟩)
  have HLen : Hid ((items 0 x ++ items 0 y).length ≤ 200000000) := Lib.hid (by rw [List.length_append, items_len, items_len]; omega)
  have HW := Lib.hid hW0
  have C0 := Lib.hid (co_none W0)
  clear hcol hx hy hax hby hgx hgy hnx hny hW0
  go_enter Try.func28, Try.ntmps28
  go_wp2_with fail
  rw [← HW.out]
  clear HW
  go_loopw [5, 6, 7, 20] (fun v5 v6 v7 i wr => ∃ o : Nat, o ≤ 2 ∧ i = .int .i64 (o : Int) ∧ Hid (CoR W0 (ends x y o) v5 v6 v7 wr)) (fun _ _ _ i _ => 2 - (intOf i).toNat)
  case atStart => exact ⟨0, by omega, rfl, C0⟩
  case round =>
    obtain ⟨o, ho, rfl, HC⟩ := hrel
    by_cases ho2 : o < 2
    · obtain ⟨l, A', n', c', hcell, hl, hn', hsl, hgl, hend, hel⟩ := HPick.out o ho2
      have qs : wr.cell? ⟨w.heap.size, o, none⟩ = some (.slice A' n' c') := ((KS.out.below HC.out.old KS.out.lt).cell o).trans hcell
      have HL := Lib.hid hl
      have HSl := Lib.hid hsl
      have HGl := Lib.hid hgl
      have HEnd := Lib.hid hend
      have hoi : (o : Int) < 2 := by omega
      have ho0 : (0 : Int) ≤ (o : Int) := by omega
      have C1 : Hid (CoR W0 (ends x y o ++ items 0 (l.take 0)) _ _ _ wr) := Lib.hid (by show CoR W0 (ends x y o ++ items 0 []) _ _ _ wr; rw [items, List.append_nil]; exact HC.out)
      clear hcell hl hsl hgl hend
      generalize ends x y o = E at *
      go_wp2_with fail
      clear qs
      go_loopw [5, 6, 7, 10, 26] (fun v5 v6 v7 hv i wr2 => ∃ m : Nat, m ≤ n' ∧ i = .int .i64 (m : Int) ∧ hv = .int .u64 ((hashes 0 (l.take m) : Nat) : Int) ∧ Hid (CoR W0 (E ++ items 0 (l.take m)) v5 v6 v7 wr2)) (fun _ _ _ _ i _ => n' - (intOf i).toNat)
      case atStart => exact ⟨0, by omega, rfl, rfl, C1⟩
      case round =>
        obtain ⟨m, hm, rfl, rfl, HC2⟩ := hrel
        by_cases hlt : m < n'
        · have ml : m < l.length := by have := HL.out; omega
          obtain ⟨b, off, cs, rfl, _, hi0, hcl⟩ := HSl.out m _ (List.getElem?_eq_getElem ml)
          have HGr := Lib.hid (HGl.out l[m] (List.getElem_mem ml))
          have ht : l.take (m + 1) = l.take m ++ [l[m]] := List.take_succ_eq_append_getElem ml
          have HT1 : Hid (hashes 0 (l.take (m + 1)) = hashN (hashes 0 (l.take m)) (enc l[m])) := Lib.hid (by rw [ht, hashes_snoc])
          have HT2 : Hid (items 0 (l.take (m + 1)) = items 0 (l.take m) ++ [(hashes 0 (l.take m), enc l[m], hashN (hashes 0 (l.take m)) (enc l[m]))]) := Lib.hid (by rw [ht, items_snoc])
          have hi : IsRec wr cs l[m] := hi0.below HC2.out.old (Nat.le_refl _)
          have ld : (loadRow 27 (.pointer (some ⟨b, off + m * 12, none⟩))).run Try.prog wr = .ok (.agg cs) wr := load_rec (fun j u hu => (HC2.out.old.cell (World.block_lt_of_cell? _ _ (hcl j u hu))).trans (hcl j u hu)) (rec_size hi)
          have HPl : Hid ((E ++ items 0 (l.take m)).length ≤ 200000000) := Lib.hid (by rw [List.length_append, items_len, List.length_take]; omega)
          have kz0 : Blk (wr.alloc (.cells #[.int .i64 0, .int .i64 0, .int .i64 0, .int .i64 0, .int .i64 0, .string ⟨#[]⟩, .string ⟨#[]⟩, .slice none 0 0, .int .u64 0, .int .u64 0, .string ⟨#[]⟩, .slice none 0 0] 27)) wr.heap.size 27 #[.int .i64 0, .int .i64 0, .int .i64 0, .int .i64 0, .int .i64 0, .string ⟨#[]⟩, .string ⟨#[]⟩, .slice none 0 0, .int .u64 0, .int .u64 0, .string ⟨#[]⟩, .slice none 0 0] := Blk.new _ _ _
          have st0 := store_rec (cs := cs) kz0 rfl (rec_size hi) (rec_one hi)
          have KB0 := Blk_setRow kz0 cs
          have BA0 : Below wr.heap.size wr ((wr.alloc (.cells #[.int .i64 0, .int .i64 0, .int .i64 0, .int .i64 0, .int .i64 0, .string ⟨#[]⟩, .string ⟨#[]⟩, .slice none 0 0, .int .u64 0, .int .u64 0, .string ⟨#[]⟩, .slice none 0 0] 27)).setRow wr.heap.size cs) := ((Below.refl _ wr).alloc (Nat.le_refl _) _).trans ((frm_setRow _ _ _).below (by simp) (fun i hi e => by omega))
          obtain ⟨W10, hW10⟩ : ∃ W1, W1 = ((wr.alloc (.cells #[.int .i64 0, .int .i64 0, .int .i64 0, .int .i64 0, .int .i64 0, .string ⟨#[]⟩, .string ⟨#[]⟩, .slice none 0 0, .int .u64 0, .int .u64 0, .string ⟨#[]⟩, .slice none 0 0] 27)).setRow wr.heap.size cs) := ⟨_, rfl⟩
          rw [← hW10] at st0 KB0 BA0
          clear hW10 kz0
          have HI1 := Lib.hid (hi.below BA0 (Nat.le_refl _))
          have l0 : (loadRow 27 (.pointer (some ⟨wr.heap.size, 0, none⟩))).run Try.prog W10 = .ok (.agg cs) W10 := load_blk KB0 (rec_size hi)
          have C2 := Lib.hid (Co.below HC2.out BA0)
          have hlti : (m : Int) < (n' : Int) := by omega
          have h0i : (0 : Int) ≤ (m : Int) := by omega
          have HPR : Hid (∀ u5 u6 u7 W, Co W0 (pv (E ++ items 0 (l.take m)) ++ [.int .u64 ((hashes 0 (l.take m) : Nat) : Int)]) (sv (E ++ items 0 (l.take m)) ++ [.int .u64 ((hashN (hashes 0 (l.take m)) (enc l[m]) : Nat) : Int)]) (tv (E ++ items 0 (l.take m)) ++ [.string ⟨(enc l[m]).toArray⟩]) u5 u6 u7 W → CoR W0 (E ++ items 0 (l.take (m + 1))) u5 u6 u7 W) := Lib.hid (fun u5 u6 u7 W h => by
            rw [HT2.out, ← List.append_assoc]
            unfold CoR
            rw [pv_app, sv_app, tv_app]
            exact h)
          clear hi0 hi hcl ht KB0 BA0 HC2
          generalize l[m] = r at *
          generalize hashes 0 (l.take m) = hh at *
          generalize E ++ items 0 (l.take m) = P at *
          have HLv : Hid ((pv P).length = P.length ∧ (sv P).length = P.length ∧ (tv P).length = P.length) := Lib.hid ⟨by simp [pv], by simp [sv], by simp [tv]⟩
          have HH := Lib.hid (hashN_eq hh (enc r))
          have HEL := Lib.hid (enc_len HGr.out)
          go_wp2_with fail
          refine (encodeR_any r cs _ HI1.out HGr.out.1 HGr.out.2.lim).mono ?_
          rintro e w3 ⟨v8, rfl, o8, _, b3⟩
          obtain ⟨A8, c8, rfl, s8⟩ := own_form o8
          have C3 := Lib.hid (Co.below C2.out b3)
          have cv : (convert 40 9 (.slice A8 (enc r).length c8)).run Try.prog w3 = .ok (.string ⟨(enc r).toArray⟩) w3 := run_string_sl _ _ _ Try.underlying40 Try.underlying5 Try.underlying9 s8 _
          clear o8 s8 b3 l0 st0 ld C2 HI1
          go_wp2_with (first
            | (at_builtin; refine wpList_append_sl _ rfl (.tmp 33) (.tmp 35) 83 rfl 23 i5 (.int .u64 0) 1 8 Try.underlying83 hi5 hz50 hz51 hz52 rfl (by decide) _ (pv P).length (pv P) rfl (C3.out.o5.alloc _) _ 1 1 [.int .u64 (hh : Int)] rfl (one_cell _ _ _) (fun u hu => by rw [List.mem_singleton.1 hu]; rfl) (by have := HLv.out.1; have := HPl.out; unfold maxLen; omega) (by have := HLv.out.1; have := HPl.out; omega) ?_; intro u5 w4 hown4 hg4 hat4; have C4 := Lib.hid (C3.out.push5 ((Below.refl _ w3).alloc (Nat.le_refl _) _) hown4 hg4 hat4); clear hown4 hg4 hat4)
            | (at_builtin; refine wpList_append_sl _ rfl (.tmp 37) (.tmp 39) 84 rfl 9 i7 (.string ⟨#[]⟩) 1 16 Try.underlying84 hi7 hz70 hz71 hz72 rfl (by decide) _ (tv P).length (tv P) rfl (C4.out.o7.alloc _) _ 1 1 [.string ⟨(enc r).toArray⟩] rfl (one_cell _ _ _) (fun u hu => by rw [List.mem_singleton.1 hu]; rfl) (by have := HLv.out.2.2; have := HPl.out; unfold maxLen; omega) (by have := HLv.out.2.2; have := HPl.out; omega) ?_; intro u7 w5 hown5 hg5 hat5; have C5 := Lib.hid (C4.out.push7 ((Below.refl _ w4).alloc (Nat.le_refl _) _) hown5 hg5 hat5); clear hown5 hg5 hat5))
          refine (Dg.chainR_any _ _ _ (by have := HEL.out; unfold maxLen; show (enc r).toArray.size ≤ _; simp; omega)).mono ?_
          rintro e w6 ⟨rfl, rfl⟩
          have HC : Hid (Dg.chainI (hh : Int) (⟨(enc r).toArray⟩ : ByteArray).data.toList = ((hashN hh (enc r) : Nat) : Int)) := HH.out
          rw [HC.out]
          clear HC cv
          go_wp2_with (at_builtin; refine wpList_append_sl _ rfl (.tmp 44) (.tmp 46) 83 rfl 23 i5 (.int .u64 0) 1 8 Try.underlying83 hi5 hz50 hz51 hz52 rfl (by decide) _ (sv P).length (sv P) rfl (C5.out.o6.alloc _) _ 1 1 [.int .u64 ((hashN hh (enc r) : Nat) : Int)] rfl (one_cell _ _ _) (fun u hu => by rw [List.mem_singleton.1 hu]; rfl) (by have := HLv.out.2.1; have := HPl.out; unfold maxLen; omega) (by have := HLv.out.2.1; have := HPl.out; omega) ?_; intro u6 w6 hown6 hg6 hat6; have C6 := Lib.hid (C5.out.push6 ((Below.refl _ w5).alloc (Nat.le_refl _) _) hown6 hg6 hat6); clear hown6 hg6 hat6)
          have RR := Lib.hid (HPR.out _ _ _ _ C6.out)
          go_wp2_with fail
          go_roundw
          case rel => exact ⟨m + 1, by omega, by go_num, by rw [HT1.out], RR⟩
          case measure => simp [intOf]; omega
        · obtain rfl : m = n' := by omega
          have hlm : l.take m = l := List.take_of_length_le (by have := HL.out; omega)
          have C3 : Hid (CoR W0 (ends x y (o + 1)) _ _ _ _) := Lib.hid (by have := HC2.out; rw [hlm] at this; rw [HEnd.out]; exact this)
          clear hlm
          go_wp2_with fail
          go_roundw
          case rel => exact ⟨o + 1, by omega, by go_num, C3⟩
          case measure => simp [intOf]; omega
    · obtain rfl : o = 2 := by omega
      have HC9 : Hid (Co W0 (pv (items 0 x ++ items 0 y)) (sv (items 0 x ++ items 0 y)) (tv (items 0 x ++ items 0 y)) _ _ _ wr) := Lib.hid HC.out
      clear HC HPick C0
      generalize items 0 x ++ items 0 y = P at *
      have hp5 := HC9.out.o5
      have hp6 := HC9.out.o6
      have hp7 := HC9.out.o7
      rw [show (pv P).length = P.length from by simp [pv]] at hp5
      rw [show (sv P).length = P.length from by simp [sv]] at hp6
      rw [show (tv P).length = P.length from by simp [tv]] at hp7
      obtain ⟨A5, c5, rfl, s5⟩ := own_form hp5
      obtain ⟨A6, c6, rfl, s6⟩ := own_form hp6
      obtain ⟨A7, c7, rfl, s7⟩ := own_form hp7
      have S5 := Lib.hid s5
      have S6 := Lib.hid s6
      have S7 := Lib.hid s7
      have BW := Lib.hid HC9.out.old
      clear hp5 hp6 hp7 s5 s6 s7 HC9
      generalize hN : P.length = N at *
      have HNP := Lib.hid hN
      clear hN
      go_wp2_with fail
      generalize wr = wb at *
      go_loopw [52] (fun iv wr => ∃ i : Nat, i ≤ N ∧ iv = .int .i64 (i : Int) ∧ Hid (Below wb.heap.size wb wr) ∧ Hid (∀ i' k', i' < i → k' < i' → ¬ Hit P i' k')) (fun iv _ => N - (intOf iv).toNat)
      case atStart => exact ⟨0, by omega, rfl, Below.refl _ _, fun i' k' h => by omega⟩
      case round =>
        obtain ⟨i, hi, rfl, HQ, HNo⟩ := hrel
        have hN9 : N ≤ 200000000 := HLen.out
        by_cases hlt : i < N
        · have hlti : (i : Int) < (N : Int) := by omega
          have h0i : (0 : Int) ≤ (i : Int) := by omega
          go_wp2_with fail
          go_loopw [56] (fun kv wr => ∃ k : Nat, k ≤ i ∧ kv = .int .i64 (k : Int) ∧ Hid (Below wb.heap.size wb wr) ∧ Hid (∀ k', k' < k → ¬ Hit P i k')) (fun kv _ => i - (intOf kv).toNat)
          case atStart => exact ⟨0, by omega, rfl, HQ, fun k' h => by omega⟩
          case round =>
            obtain ⟨k, hk, rfl, HQ2, HNo2⟩ := hrel
            by_cases hlk : k < i
            · have ip : i < P.length := by have := HNP.out; omega
              have kp : k < P.length := by omega
              have hip : P[i]? = some P[i] := List.getElem?_eq_getElem ip
              have hkp : P[k]? = some P[k] := List.getElem?_eq_getElem kp
              obtain ⟨b5, o5, rfl, e5⟩ := S5.out.open_ (by omega)
              obtain ⟨b6, o6, rfl, e6⟩ := S6.out.open_ (by omega)
              obtain ⟨b7, o7, rfl, e7⟩ := S7.out.open_ (by omega)
              have F5 : Hid (∀ W, Reg.SB wr.drew W → W.cell? ⟨b5, o5 + i, none⟩ = some (.int .u64 (P[i].1 : Int)) ∧ W.cell? ⟨b5, o5 + k, none⟩ = some (.int .u64 (P[k].1 : Int))) := Lib.hid (fun W hW => ⟨((HQ2.out.trans (hW.old.mono HQ2.out.size)).cell (World.block_lt_of_cell? wb _ (e5 i _ (pv_at hip)))).trans (e5 i _ (pv_at hip)), ((HQ2.out.trans (hW.old.mono HQ2.out.size)).cell (World.block_lt_of_cell? wb _ (e5 k _ (pv_at hkp)))).trans (e5 k _ (pv_at hkp))⟩)
              have F6 : Hid (∀ W, Reg.SB wr.drew W → W.cell? ⟨b6, o6 + i, none⟩ = some (.int .u64 (P[i].2.2 : Int)) ∧ W.cell? ⟨b6, o6 + k, none⟩ = some (.int .u64 (P[k].2.2 : Int))) := Lib.hid (fun W hW => ⟨((HQ2.out.trans (hW.old.mono HQ2.out.size)).cell (World.block_lt_of_cell? wb _ (e6 i _ (sv_at hip)))).trans (e6 i _ (sv_at hip)), ((HQ2.out.trans (hW.old.mono HQ2.out.size)).cell (World.block_lt_of_cell? wb _ (e6 k _ (sv_at hkp)))).trans (e6 k _ (sv_at hkp))⟩)
              have F7 : Hid (∀ W, Reg.SB wr.drew W → W.cell? ⟨b7, o7 + i, none⟩ = some (.string ⟨P[i].2.1.toArray⟩) ∧ W.cell? ⟨b7, o7 + k, none⟩ = some (.string ⟨P[k].2.1.toArray⟩)) := Lib.hid (fun W hW => ⟨((HQ2.out.trans (hW.old.mono HQ2.out.size)).cell (World.block_lt_of_cell? wb _ (e7 i _ (tv_at hip)))).trans (e7 i _ (tv_at hip)), ((HQ2.out.trans (hW.old.mono HQ2.out.size)).cell (World.block_lt_of_cell? wb _ (e7 k _ (tv_at hkp)))).trans (e7 k _ (tv_at hkp))⟩)
              have HHit : Hid (Hit P i k ↔ P[i].2.2 = P[k].2.2 ∧ (P[i].1 ≠ P[k].1 ∨ P[i].2.1 ≠ P[k].2.1)) := Lib.hid ⟨fun ⟨p, q, h1, h2, h3, h4⟩ => by rw [hip] at h1; rw [hkp] at h2; injection h1 with h1; injection h2 with h2; subst h1 h2; exact ⟨h3, h4⟩, fun ⟨h3, h4⟩ => ⟨_, _, hip, hkp, h3, h4⟩⟩
              have hlkI : (k : Int) < (i : Int) := by omega
              have hlkN : (k : Int) < (N : Int) := by omega
              have h0k : (0 : Int) ≤ (k : Int) := by omega
              have HNext : Hid (¬ Hit P i k → ∀ k', k' < k + 1 → ¬ Hit P i k') := Lib.hid (fun hno k' hk' => by
                rcases Nat.lt_or_ge k' k with h | h
                · exact HNo2.out k' h
                · obtain rfl : k' = k := by omega
                  exact hno)
              have B22 : Hid (Below wb.heap.size wb wr.drew) := Lib.hid (HQ2.out.trans ((Below.refl _ wr).drew.mono HQ2.out.size))
              have BX22 : Hid (Below w.heap.size w wr.drew) := Lib.hid (BE.out.trans ((BW.out.trans (B22.out.mono BW.out.size)).mono BE.out.size))
              clear hip hkp e5 e6 e7
              generalize P[i] = p at *
              generalize P[k] = q at *
              obtain ⟨pa, pt, ps⟩ := p
              obtain ⟨qa, qt, qs⟩ := q
              simp only at F5 F6 F7 HHit
              go_wp2_with fail
              by_cases hs : ps = qs
              · have ts : ((ps : Int) == (qs : Int)) = true := by simp [hs]
                have ts1 : (ps == qs) = true := by simp [hs]
                by_cases ha : pa = qa
                · have ta : ((pa : Int) != (qa : Int)) = false := by simp [ha]
                  have ta1 : (pa != qa) = false := by simp [ha]
                  by_cases hx : pt = qt
                  · have tx : (pt == qt) = true := by simp [hx]
                    have HNH := Lib.hid (HNext.out (fun h => by have := HHit.out.1 h; rcases this.2 with e | e; exact e ha; exact e hx))
                    clear hs ha hx
                    refine Reg.start (by kernel_rfl) ?_
                    refine Reg.take 0 (v := ?_) rfl (by kernel_rfl) (fun _ _ _ h => h) rfl ?_ ?_
                    rotate_left
                    · intro W hW
                      go_simp
                      try with_reducible rfl
                    try simp only [Act.put, List.setIfInBounds_toArray, List.set_cons_zero, List.set_cons_succ]
                    refine Reg.take 1 (v := ?_) rfl (by kernel_rfl) (fun _ _ _ h => h) rfl ?_ ?_
                    rotate_left
                    · intro W hW
                      go_simp
                      try with_reducible rfl
                    try simp only [Act.put, List.setIfInBounds_toArray, List.set_cons_zero, List.set_cons_succ]
                    refine Reg.take 2 (v := ?_) rfl (by kernel_rfl) (fun _ _ _ h => h) rfl ?_ ?_
                    rotate_left
                    · intro W hW
                      go_simp
                      try with_reducible rfl
                    try simp only [Act.put, List.setIfInBounds_toArray, List.set_cons_zero, List.set_cons_succ]
                    refine Reg.take 3 (v := ?_) rfl (by kernel_rfl) (fun _ _ _ h => h) rfl ?_ ?_
                    rotate_left
                    · intro W hW
                      have q := (F6.out W hW).1
                      go_simp
                      try with_reducible rfl
                    try simp only [Act.put, List.setIfInBounds_toArray, List.set_cons_zero, List.set_cons_succ]
                    refine Reg.take 4 (v := ?_) rfl (by kernel_rfl) (fun _ _ _ h => h) rfl ?_ ?_
                    rotate_left
                    · intro W hW
                      go_simp
                      try with_reducible rfl
                    try simp only [Act.put, List.setIfInBounds_toArray, List.set_cons_zero, List.set_cons_succ]
                    refine Reg.take 5 (v := ?_) rfl (by kernel_rfl) (fun _ _ _ h => h) rfl ?_ ?_
                    rotate_left
                    · intro W hW
                      go_simp
                      try with_reducible rfl
                    try simp only [Act.put, List.setIfInBounds_toArray, List.set_cons_zero, List.set_cons_succ]
                    refine Reg.take 6 (v := ?_) rfl (by kernel_rfl) (fun _ _ _ h => h) rfl ?_ ?_
                    rotate_left
                    · intro W hW
                      go_simp
                      try with_reducible rfl
                    try simp only [Act.put, List.setIfInBounds_toArray, List.set_cons_zero, List.set_cons_succ]
                    refine Reg.take 7 (v := ?_) rfl (by kernel_rfl) (fun _ _ _ h => h) rfl ?_ ?_
                    rotate_left
                    · intro W hW
                      have q := (F6.out W hW).2
                      go_simp
                      try with_reducible rfl
                    try simp only [Act.put, List.setIfInBounds_toArray, List.set_cons_zero, List.set_cons_succ]
                    refine Reg.take 8 (v := ?_) rfl (by kernel_rfl) (fun _ _ _ h => h) rfl ?_ ?_
                    rotate_left
                    · intro W hW
                      go_simp
                      try with_reducible rfl
                    try simp only [Act.put, List.setIfInBounds_toArray, List.set_cons_zero, List.set_cons_succ]
                    refine Reg.take 9 (v := ?_) rfl (by kernel_rfl) (fun _ _ _ h => h) rfl ?_ ?_
                    rotate_left
                    · intro W hW
                      go_simp
                      try with_reducible rfl
                    try simp only [Act.put, List.setIfInBounds_toArray, List.set_cons_zero, List.set_cons_succ]
                    refine Reg.take 10 (v := ?_) rfl (by kernel_rfl) (fun _ _ _ h => h) rfl ?_ ?_
                    rotate_left
                    · intro W hW
                      go_simp
                      try with_reducible rfl
                    try simp only [Act.put, List.setIfInBounds_toArray, List.set_cons_zero, List.set_cons_succ]
                    refine Reg.take 11 (v := ?_) rfl (by kernel_rfl) (fun _ _ _ h => h) rfl ?_ ?_
                    rotate_left
                    · intro W hW
                      go_simp
                      try with_reducible rfl
                    try simp only [Act.put, List.setIfInBounds_toArray, List.set_cons_zero, List.set_cons_succ]
                    refine Reg.take 12 (v := ?_) rfl (by kernel_rfl) (fun _ _ _ h => h) rfl ?_ ?_
                    rotate_left
                    · intro W hW
                      go_simp
                      try with_reducible rfl
                    try simp only [Act.put, List.setIfInBounds_toArray, List.set_cons_zero, List.set_cons_succ]
                    refine Reg.take 13 (v := ?_) rfl (by kernel_rfl) (fun _ _ _ h => h) rfl ?_ ?_
                    rotate_left
                    · intro W hW
                      have q := (F5.out W hW).1
                      go_simp
                      try with_reducible rfl
                    try simp only [Act.put, List.setIfInBounds_toArray, List.set_cons_zero, List.set_cons_succ]
                    refine Reg.take 14 (v := ?_) rfl (by kernel_rfl) (fun _ _ _ h => h) rfl ?_ ?_
                    rotate_left
                    · intro W hW
                      go_simp
                      try with_reducible rfl
                    try simp only [Act.put, List.setIfInBounds_toArray, List.set_cons_zero, List.set_cons_succ]
                    refine Reg.take 15 (v := ?_) rfl (by kernel_rfl) (fun _ _ _ h => h) rfl ?_ ?_
                    rotate_left
                    · intro W hW
                      go_simp
                      try with_reducible rfl
                    try simp only [Act.put, List.setIfInBounds_toArray, List.set_cons_zero, List.set_cons_succ]
                    refine Reg.take 16 (v := ?_) rfl (by kernel_rfl) (fun _ _ _ h => h) rfl ?_ ?_
                    rotate_left
                    · intro W hW
                      go_simp
                      try with_reducible rfl
                    try simp only [Act.put, List.setIfInBounds_toArray, List.set_cons_zero, List.set_cons_succ]
                    refine Reg.take 17 (v := ?_) rfl (by kernel_rfl) (fun _ _ _ h => h) rfl ?_ ?_
                    rotate_left
                    · intro W hW
                      have q := (F5.out W hW).2
                      go_simp
                      try with_reducible rfl
                    try simp only [Act.put, List.setIfInBounds_toArray, List.set_cons_zero, List.set_cons_succ]
                    refine Reg.take 18 (v := ?_) rfl (by kernel_rfl) (fun _ _ _ h => h) rfl ?_ ?_
                    rotate_left
                    · intro W hW
                      go_simp
                      try with_reducible rfl
                    try simp only [Act.put, List.setIfInBounds_toArray, List.set_cons_zero, List.set_cons_succ]
                    refine Reg.take 19 (v := ?_) rfl (by kernel_rfl) (fun _ _ _ h => h) rfl ?_ ?_
                    rotate_left
                    · intro W hW
                      go_simp
                      try with_reducible rfl
                    try simp only [Act.put, List.setIfInBounds_toArray, List.set_cons_zero, List.set_cons_succ]
                    refine Reg.take 20 (v := ?_) rfl (by kernel_rfl) (fun _ _ _ h => h) rfl ?_ ?_
                    rotate_left
                    · intro W hW
                      go_simp
                      try with_reducible rfl
                    try simp only [Act.put, List.setIfInBounds_toArray, List.set_cons_zero, List.set_cons_succ]
                    refine Reg.take 21 (v := ?_) rfl (by kernel_rfl) (fun _ _ _ h => h) rfl ?_ ?_
                    rotate_left
                    · intro W hW
                      go_simp
                      try with_reducible rfl
                    try simp only [Act.put, List.setIfInBounds_toArray, List.set_cons_zero, List.set_cons_succ]
                    refine Reg.take 22 (v := ?_) rfl (by kernel_rfl) (fun _ _ _ h => h) rfl ?_ ?_
                    rotate_left
                    · intro W hW
                      go_simp
                      try with_reducible rfl
                    try simp only [Act.put, List.setIfInBounds_toArray, List.set_cons_zero, List.set_cons_succ]
                    refine Reg.take 23 (v := ?_) rfl (by kernel_rfl) (fun _ _ _ h => h) rfl ?_ ?_
                    rotate_left
                    · intro W hW
                      have q := (F7.out W hW).1
                      go_simp
                      try with_reducible rfl
                    try simp only [Act.put, List.setIfInBounds_toArray, List.set_cons_zero, List.set_cons_succ]
                    refine Reg.take 24 (v := ?_) rfl (by kernel_rfl) (fun _ _ _ h => h) rfl ?_ ?_
                    rotate_left
                    · intro W hW
                      go_simp
                      try with_reducible rfl
                    try simp only [Act.put, List.setIfInBounds_toArray, List.set_cons_zero, List.set_cons_succ]
                    refine Reg.take 25 (v := ?_) rfl (by kernel_rfl) (fun _ _ _ h => h) rfl ?_ ?_
                    rotate_left
                    · intro W hW
                      go_simp
                      try with_reducible rfl
                    try simp only [Act.put, List.setIfInBounds_toArray, List.set_cons_zero, List.set_cons_succ]
                    refine Reg.take 26 (v := ?_) rfl (by kernel_rfl) (fun _ _ _ h => h) rfl ?_ ?_
                    rotate_left
                    · intro W hW
                      go_simp
                      try with_reducible rfl
                    try simp only [Act.put, List.setIfInBounds_toArray, List.set_cons_zero, List.set_cons_succ]
                    refine Reg.take 27 (v := ?_) rfl (by kernel_rfl) (fun _ _ _ h => h) rfl ?_ ?_
                    rotate_left
                    · intro W hW
                      have q := (F7.out W hW).2
                      go_simp
                      try with_reducible rfl
                    try simp only [Act.put, List.setIfInBounds_toArray, List.set_cons_zero, List.set_cons_succ]
                    refine Reg.take 28 (v := ?_) rfl (by kernel_rfl) (fun _ _ _ h => h) rfl ?_ ?_
                    rotate_left
                    · intro W hW
                      go_simp
                      try with_reducible rfl
                    try simp only [Act.put, List.setIfInBounds_toArray, List.set_cons_zero, List.set_cons_succ]
                    refine Reg.take 29 (v := ?_) rfl (by kernel_rfl) (fun _ _ _ h => h) rfl ?_ ?_
                    rotate_left
                    · intro W hW
                      go_simp
                      try with_reducible rfl
                    try simp only [Act.put, List.setIfInBounds_toArray, List.set_cons_zero, List.set_cons_succ]
                    refine Reg.take 30 (v := ?_) rfl (by kernel_rfl) (fun _ _ _ h => h) rfl ?_ ?_
                    rotate_left
                    · intro W hW
                      go_simp
                      try with_reducible rfl
                    try simp only [Act.put, List.setIfInBounds_toArray, List.set_cons_zero, List.set_cons_succ]
                    refine Reg.done (by kernel_rfl) ?_
                    go_wp2_with fail
                    go_roundw
                    case rel => exact ⟨k + 1, by omega, by go_num, B22, HNH⟩
                    case measure => simp [intOf]; omega
                  · have tx : (pt == qt) = false := by simp [hx]
                    clear hs ha hx
                    refine Reg.start (by kernel_rfl) ?_
                    refine Reg.take 0 (v := ?_) rfl (by kernel_rfl) (fun _ _ _ h => h) rfl ?_ ?_
                    rotate_left
                    · intro W hW
                      go_simp
                      try with_reducible rfl
                    try simp only [Act.put, List.setIfInBounds_toArray, List.set_cons_zero, List.set_cons_succ]
                    refine Reg.take 1 (v := ?_) rfl (by kernel_rfl) (fun _ _ _ h => h) rfl ?_ ?_
                    rotate_left
                    · intro W hW
                      go_simp
                      try with_reducible rfl
                    try simp only [Act.put, List.setIfInBounds_toArray, List.set_cons_zero, List.set_cons_succ]
                    refine Reg.take 2 (v := ?_) rfl (by kernel_rfl) (fun _ _ _ h => h) rfl ?_ ?_
                    rotate_left
                    · intro W hW
                      go_simp
                      try with_reducible rfl
                    try simp only [Act.put, List.setIfInBounds_toArray, List.set_cons_zero, List.set_cons_succ]
                    refine Reg.take 3 (v := ?_) rfl (by kernel_rfl) (fun _ _ _ h => h) rfl ?_ ?_
                    rotate_left
                    · intro W hW
                      have q := (F6.out W hW).1
                      go_simp
                      try with_reducible rfl
                    try simp only [Act.put, List.setIfInBounds_toArray, List.set_cons_zero, List.set_cons_succ]
                    refine Reg.take 4 (v := ?_) rfl (by kernel_rfl) (fun _ _ _ h => h) rfl ?_ ?_
                    rotate_left
                    · intro W hW
                      go_simp
                      try with_reducible rfl
                    try simp only [Act.put, List.setIfInBounds_toArray, List.set_cons_zero, List.set_cons_succ]
                    refine Reg.take 5 (v := ?_) rfl (by kernel_rfl) (fun _ _ _ h => h) rfl ?_ ?_
                    rotate_left
                    · intro W hW
                      go_simp
                      try with_reducible rfl
                    try simp only [Act.put, List.setIfInBounds_toArray, List.set_cons_zero, List.set_cons_succ]
                    refine Reg.take 6 (v := ?_) rfl (by kernel_rfl) (fun _ _ _ h => h) rfl ?_ ?_
                    rotate_left
                    · intro W hW
                      go_simp
                      try with_reducible rfl
                    try simp only [Act.put, List.setIfInBounds_toArray, List.set_cons_zero, List.set_cons_succ]
                    refine Reg.take 7 (v := ?_) rfl (by kernel_rfl) (fun _ _ _ h => h) rfl ?_ ?_
                    rotate_left
                    · intro W hW
                      have q := (F6.out W hW).2
                      go_simp
                      try with_reducible rfl
                    try simp only [Act.put, List.setIfInBounds_toArray, List.set_cons_zero, List.set_cons_succ]
                    refine Reg.take 8 (v := ?_) rfl (by kernel_rfl) (fun _ _ _ h => h) rfl ?_ ?_
                    rotate_left
                    · intro W hW
                      go_simp
                      try with_reducible rfl
                    try simp only [Act.put, List.setIfInBounds_toArray, List.set_cons_zero, List.set_cons_succ]
                    refine Reg.take 9 (v := ?_) rfl (by kernel_rfl) (fun _ _ _ h => h) rfl ?_ ?_
                    rotate_left
                    · intro W hW
                      go_simp
                      try with_reducible rfl
                    try simp only [Act.put, List.setIfInBounds_toArray, List.set_cons_zero, List.set_cons_succ]
                    refine Reg.take 10 (v := ?_) rfl (by kernel_rfl) (fun _ _ _ h => h) rfl ?_ ?_
                    rotate_left
                    · intro W hW
                      go_simp
                      try with_reducible rfl
                    try simp only [Act.put, List.setIfInBounds_toArray, List.set_cons_zero, List.set_cons_succ]
                    refine Reg.take 11 (v := ?_) rfl (by kernel_rfl) (fun _ _ _ h => h) rfl ?_ ?_
                    rotate_left
                    · intro W hW
                      go_simp
                      try with_reducible rfl
                    try simp only [Act.put, List.setIfInBounds_toArray, List.set_cons_zero, List.set_cons_succ]
                    refine Reg.take 12 (v := ?_) rfl (by kernel_rfl) (fun _ _ _ h => h) rfl ?_ ?_
                    rotate_left
                    · intro W hW
                      go_simp
                      try with_reducible rfl
                    try simp only [Act.put, List.setIfInBounds_toArray, List.set_cons_zero, List.set_cons_succ]
                    refine Reg.take 13 (v := ?_) rfl (by kernel_rfl) (fun _ _ _ h => h) rfl ?_ ?_
                    rotate_left
                    · intro W hW
                      have q := (F5.out W hW).1
                      go_simp
                      try with_reducible rfl
                    try simp only [Act.put, List.setIfInBounds_toArray, List.set_cons_zero, List.set_cons_succ]
                    refine Reg.take 14 (v := ?_) rfl (by kernel_rfl) (fun _ _ _ h => h) rfl ?_ ?_
                    rotate_left
                    · intro W hW
                      go_simp
                      try with_reducible rfl
                    try simp only [Act.put, List.setIfInBounds_toArray, List.set_cons_zero, List.set_cons_succ]
                    refine Reg.take 15 (v := ?_) rfl (by kernel_rfl) (fun _ _ _ h => h) rfl ?_ ?_
                    rotate_left
                    · intro W hW
                      go_simp
                      try with_reducible rfl
                    try simp only [Act.put, List.setIfInBounds_toArray, List.set_cons_zero, List.set_cons_succ]
                    refine Reg.take 16 (v := ?_) rfl (by kernel_rfl) (fun _ _ _ h => h) rfl ?_ ?_
                    rotate_left
                    · intro W hW
                      go_simp
                      try with_reducible rfl
                    try simp only [Act.put, List.setIfInBounds_toArray, List.set_cons_zero, List.set_cons_succ]
                    refine Reg.take 17 (v := ?_) rfl (by kernel_rfl) (fun _ _ _ h => h) rfl ?_ ?_
                    rotate_left
                    · intro W hW
                      have q := (F5.out W hW).2
                      go_simp
                      try with_reducible rfl
                    try simp only [Act.put, List.setIfInBounds_toArray, List.set_cons_zero, List.set_cons_succ]
                    refine Reg.take 18 (v := ?_) rfl (by kernel_rfl) (fun _ _ _ h => h) rfl ?_ ?_
                    rotate_left
                    · intro W hW
                      go_simp
                      try with_reducible rfl
                    try simp only [Act.put, List.setIfInBounds_toArray, List.set_cons_zero, List.set_cons_succ]
                    refine Reg.take 19 (v := ?_) rfl (by kernel_rfl) (fun _ _ _ h => h) rfl ?_ ?_
                    rotate_left
                    · intro W hW
                      go_simp
                      try with_reducible rfl
                    try simp only [Act.put, List.setIfInBounds_toArray, List.set_cons_zero, List.set_cons_succ]
                    refine Reg.take 20 (v := ?_) rfl (by kernel_rfl) (fun _ _ _ h => h) rfl ?_ ?_
                    rotate_left
                    · intro W hW
                      go_simp
                      try with_reducible rfl
                    try simp only [Act.put, List.setIfInBounds_toArray, List.set_cons_zero, List.set_cons_succ]
                    refine Reg.take 21 (v := ?_) rfl (by kernel_rfl) (fun _ _ _ h => h) rfl ?_ ?_
                    rotate_left
                    · intro W hW
                      go_simp
                      try with_reducible rfl
                    try simp only [Act.put, List.setIfInBounds_toArray, List.set_cons_zero, List.set_cons_succ]
                    refine Reg.take 22 (v := ?_) rfl (by kernel_rfl) (fun _ _ _ h => h) rfl ?_ ?_
                    rotate_left
                    · intro W hW
                      go_simp
                      try with_reducible rfl
                    try simp only [Act.put, List.setIfInBounds_toArray, List.set_cons_zero, List.set_cons_succ]
                    refine Reg.take 23 (v := ?_) rfl (by kernel_rfl) (fun _ _ _ h => h) rfl ?_ ?_
                    rotate_left
                    · intro W hW
                      have q := (F7.out W hW).1
                      go_simp
                      try with_reducible rfl
                    try simp only [Act.put, List.setIfInBounds_toArray, List.set_cons_zero, List.set_cons_succ]
                    refine Reg.take 24 (v := ?_) rfl (by kernel_rfl) (fun _ _ _ h => h) rfl ?_ ?_
                    rotate_left
                    · intro W hW
                      go_simp
                      try with_reducible rfl
                    try simp only [Act.put, List.setIfInBounds_toArray, List.set_cons_zero, List.set_cons_succ]
                    refine Reg.take 25 (v := ?_) rfl (by kernel_rfl) (fun _ _ _ h => h) rfl ?_ ?_
                    rotate_left
                    · intro W hW
                      go_simp
                      try with_reducible rfl
                    try simp only [Act.put, List.setIfInBounds_toArray, List.set_cons_zero, List.set_cons_succ]
                    refine Reg.take 26 (v := ?_) rfl (by kernel_rfl) (fun _ _ _ h => h) rfl ?_ ?_
                    rotate_left
                    · intro W hW
                      go_simp
                      try with_reducible rfl
                    try simp only [Act.put, List.setIfInBounds_toArray, List.set_cons_zero, List.set_cons_succ]
                    refine Reg.take 27 (v := ?_) rfl (by kernel_rfl) (fun _ _ _ h => h) rfl ?_ ?_
                    rotate_left
                    · intro W hW
                      have q := (F7.out W hW).2
                      go_simp
                      try with_reducible rfl
                    try simp only [Act.put, List.setIfInBounds_toArray, List.set_cons_zero, List.set_cons_succ]
                    refine Reg.take 28 (v := ?_) rfl (by kernel_rfl) (fun _ _ _ h => h) rfl ?_ ?_
                    rotate_left
                    · intro W hW
                      go_simp
                      try with_reducible rfl
                    try simp only [Act.put, List.setIfInBounds_toArray, List.set_cons_zero, List.set_cons_succ]
                    refine Reg.take 29 (v := ?_) rfl (by kernel_rfl) (fun _ _ _ h => h) rfl ?_ ?_
                    rotate_left
                    · intro W hW
                      go_simp
                      try with_reducible rfl
                    try simp only [Act.put, List.setIfInBounds_toArray, List.set_cons_zero, List.set_cons_succ]
                    refine Reg.take 30 (v := ?_) rfl (by kernel_rfl) (fun _ _ _ h => h) rfl ?_ ?_
                    rotate_left
                    · intro W hW
                      go_simp
                      try with_reducible rfl
                    try simp only [Act.put, List.setIfInBounds_toArray, List.set_cons_zero, List.set_cons_succ]
                    refine Reg.done (by kernel_rfl) ?_
                    go_wp2_with fail
                    go_ret
                    exact ⟨rfl, BX22.out⟩
                · have ta : ((pa : Int) != (qa : Int)) = true := by simp; omega
                  have ta1 : (pa != qa) = true := by simp [ha]
                  clear hs ha
                  refine Reg.start (by kernel_rfl) ?_
                  refine Reg.take 0 (v := ?_) rfl (by kernel_rfl) (fun _ _ _ h => h) rfl ?_ ?_
                  rotate_left
                  · intro W hW
                    go_simp
                    try with_reducible rfl
                  try simp only [Act.put, List.setIfInBounds_toArray, List.set_cons_zero, List.set_cons_succ]
                  refine Reg.take 1 (v := ?_) rfl (by kernel_rfl) (fun _ _ _ h => h) rfl ?_ ?_
                  rotate_left
                  · intro W hW
                    go_simp
                    try with_reducible rfl
                  try simp only [Act.put, List.setIfInBounds_toArray, List.set_cons_zero, List.set_cons_succ]
                  refine Reg.take 2 (v := ?_) rfl (by kernel_rfl) (fun _ _ _ h => h) rfl ?_ ?_
                  rotate_left
                  · intro W hW
                    go_simp
                    try with_reducible rfl
                  try simp only [Act.put, List.setIfInBounds_toArray, List.set_cons_zero, List.set_cons_succ]
                  refine Reg.take 3 (v := ?_) rfl (by kernel_rfl) (fun _ _ _ h => h) rfl ?_ ?_
                  rotate_left
                  · intro W hW
                    have q := (F6.out W hW).1
                    go_simp
                    try with_reducible rfl
                  try simp only [Act.put, List.setIfInBounds_toArray, List.set_cons_zero, List.set_cons_succ]
                  refine Reg.take 4 (v := ?_) rfl (by kernel_rfl) (fun _ _ _ h => h) rfl ?_ ?_
                  rotate_left
                  · intro W hW
                    go_simp
                    try with_reducible rfl
                  try simp only [Act.put, List.setIfInBounds_toArray, List.set_cons_zero, List.set_cons_succ]
                  refine Reg.take 5 (v := ?_) rfl (by kernel_rfl) (fun _ _ _ h => h) rfl ?_ ?_
                  rotate_left
                  · intro W hW
                    go_simp
                    try with_reducible rfl
                  try simp only [Act.put, List.setIfInBounds_toArray, List.set_cons_zero, List.set_cons_succ]
                  refine Reg.take 6 (v := ?_) rfl (by kernel_rfl) (fun _ _ _ h => h) rfl ?_ ?_
                  rotate_left
                  · intro W hW
                    go_simp
                    try with_reducible rfl
                  try simp only [Act.put, List.setIfInBounds_toArray, List.set_cons_zero, List.set_cons_succ]
                  refine Reg.take 7 (v := ?_) rfl (by kernel_rfl) (fun _ _ _ h => h) rfl ?_ ?_
                  rotate_left
                  · intro W hW
                    have q := (F6.out W hW).2
                    go_simp
                    try with_reducible rfl
                  try simp only [Act.put, List.setIfInBounds_toArray, List.set_cons_zero, List.set_cons_succ]
                  refine Reg.take 8 (v := ?_) rfl (by kernel_rfl) (fun _ _ _ h => h) rfl ?_ ?_
                  rotate_left
                  · intro W hW
                    go_simp
                    try with_reducible rfl
                  try simp only [Act.put, List.setIfInBounds_toArray, List.set_cons_zero, List.set_cons_succ]
                  refine Reg.take 9 (v := ?_) rfl (by kernel_rfl) (fun _ _ _ h => h) rfl ?_ ?_
                  rotate_left
                  · intro W hW
                    go_simp
                    try with_reducible rfl
                  try simp only [Act.put, List.setIfInBounds_toArray, List.set_cons_zero, List.set_cons_succ]
                  refine Reg.take 10 (v := ?_) rfl (by kernel_rfl) (fun _ _ _ h => h) rfl ?_ ?_
                  rotate_left
                  · intro W hW
                    go_simp
                    try with_reducible rfl
                  try simp only [Act.put, List.setIfInBounds_toArray, List.set_cons_zero, List.set_cons_succ]
                  refine Reg.take 11 (v := ?_) rfl (by kernel_rfl) (fun _ _ _ h => h) rfl ?_ ?_
                  rotate_left
                  · intro W hW
                    go_simp
                    try with_reducible rfl
                  try simp only [Act.put, List.setIfInBounds_toArray, List.set_cons_zero, List.set_cons_succ]
                  refine Reg.take 12 (v := ?_) rfl (by kernel_rfl) (fun _ _ _ h => h) rfl ?_ ?_
                  rotate_left
                  · intro W hW
                    go_simp
                    try with_reducible rfl
                  try simp only [Act.put, List.setIfInBounds_toArray, List.set_cons_zero, List.set_cons_succ]
                  refine Reg.take 13 (v := ?_) rfl (by kernel_rfl) (fun _ _ _ h => h) rfl ?_ ?_
                  rotate_left
                  · intro W hW
                    have q := (F5.out W hW).1
                    go_simp
                    try with_reducible rfl
                  try simp only [Act.put, List.setIfInBounds_toArray, List.set_cons_zero, List.set_cons_succ]
                  refine Reg.take 14 (v := ?_) rfl (by kernel_rfl) (fun _ _ _ h => h) rfl ?_ ?_
                  rotate_left
                  · intro W hW
                    go_simp
                    try with_reducible rfl
                  try simp only [Act.put, List.setIfInBounds_toArray, List.set_cons_zero, List.set_cons_succ]
                  refine Reg.take 15 (v := ?_) rfl (by kernel_rfl) (fun _ _ _ h => h) rfl ?_ ?_
                  rotate_left
                  · intro W hW
                    go_simp
                    try with_reducible rfl
                  try simp only [Act.put, List.setIfInBounds_toArray, List.set_cons_zero, List.set_cons_succ]
                  refine Reg.take 16 (v := ?_) rfl (by kernel_rfl) (fun _ _ _ h => h) rfl ?_ ?_
                  rotate_left
                  · intro W hW
                    go_simp
                    try with_reducible rfl
                  try simp only [Act.put, List.setIfInBounds_toArray, List.set_cons_zero, List.set_cons_succ]
                  refine Reg.take 17 (v := ?_) rfl (by kernel_rfl) (fun _ _ _ h => h) rfl ?_ ?_
                  rotate_left
                  · intro W hW
                    have q := (F5.out W hW).2
                    go_simp
                    try with_reducible rfl
                  try simp only [Act.put, List.setIfInBounds_toArray, List.set_cons_zero, List.set_cons_succ]
                  refine Reg.take 18 (v := ?_) rfl (by kernel_rfl) (fun _ _ _ h => h) rfl ?_ ?_
                  rotate_left
                  · intro W hW
                    go_simp
                    try with_reducible rfl
                  try simp only [Act.put, List.setIfInBounds_toArray, List.set_cons_zero, List.set_cons_succ]
                  refine Reg.take 19 (v := ?_) rfl (by kernel_rfl) (fun _ _ _ h => h) rfl ?_ ?_
                  rotate_left
                  · intro W hW
                    go_simp
                    try with_reducible rfl
                  try simp only [Act.put, List.setIfInBounds_toArray, List.set_cons_zero, List.set_cons_succ]
                  refine Reg.skip 20 rfl (by kernel_rfl) (fun _ _ _ h => h) rfl ?_
                  try simp only [Act.put, List.setIfInBounds_toArray, List.set_cons_zero, List.set_cons_succ]
                  refine Reg.skip 21 rfl (by kernel_rfl) (fun _ _ _ h => h) rfl ?_
                  try simp only [Act.put, List.setIfInBounds_toArray, List.set_cons_zero, List.set_cons_succ]
                  refine Reg.skip 22 rfl (by kernel_rfl) (fun _ _ _ h => h) rfl ?_
                  try simp only [Act.put, List.setIfInBounds_toArray, List.set_cons_zero, List.set_cons_succ]
                  refine Reg.skip 23 rfl (by kernel_rfl) (fun _ _ _ h => h) rfl ?_
                  try simp only [Act.put, List.setIfInBounds_toArray, List.set_cons_zero, List.set_cons_succ]
                  refine Reg.skip 24 rfl (by kernel_rfl) (fun _ _ _ h => h) rfl ?_
                  try simp only [Act.put, List.setIfInBounds_toArray, List.set_cons_zero, List.set_cons_succ]
                  refine Reg.skip 25 rfl (by kernel_rfl) (fun _ _ _ h => h) rfl ?_
                  try simp only [Act.put, List.setIfInBounds_toArray, List.set_cons_zero, List.set_cons_succ]
                  refine Reg.skip 26 rfl (by kernel_rfl) (fun _ _ _ h => h) rfl ?_
                  try simp only [Act.put, List.setIfInBounds_toArray, List.set_cons_zero, List.set_cons_succ]
                  refine Reg.skip 27 rfl (by kernel_rfl) (fun _ _ _ h => h) rfl ?_
                  try simp only [Act.put, List.setIfInBounds_toArray, List.set_cons_zero, List.set_cons_succ]
                  refine Reg.skip 28 rfl (by kernel_rfl) (fun _ _ _ h => h) rfl ?_
                  try simp only [Act.put, List.setIfInBounds_toArray, List.set_cons_zero, List.set_cons_succ]
                  refine Reg.take 29 (v := ?_) rfl (by kernel_rfl) (fun _ _ _ h => h) rfl ?_ ?_
                  rotate_left
                  · intro W hW
                    go_simp
                    try with_reducible rfl
                  try simp only [Act.put, List.setIfInBounds_toArray, List.set_cons_zero, List.set_cons_succ]
                  refine Reg.take 30 (v := ?_) rfl (by kernel_rfl) (fun _ _ _ h => h) rfl ?_ ?_
                  rotate_left
                  · intro W hW
                    go_simp
                    try with_reducible rfl
                  try simp only [Act.put, List.setIfInBounds_toArray, List.set_cons_zero, List.set_cons_succ]
                  refine Reg.done (by kernel_rfl) ?_
                  go_wp2_with fail
                  go_ret
                  exact ⟨rfl, BX22.out⟩
              · have ts : ((ps : Int) == (qs : Int)) = false := by simp; omega
                have ts1 : (ps == qs) = false := by simp [hs]
                have HNH := Lib.hid (HNext.out (fun h => hs (HHit.out.1 h).1))
                clear hs
                refine Reg.start (by kernel_rfl) ?_
                refine Reg.take 0 (v := ?_) rfl (by kernel_rfl) (fun _ _ _ h => h) rfl ?_ ?_
                rotate_left
                · intro W hW
                  go_simp
                  try with_reducible rfl
                try simp only [Act.put, List.setIfInBounds_toArray, List.set_cons_zero, List.set_cons_succ]
                refine Reg.take 1 (v := ?_) rfl (by kernel_rfl) (fun _ _ _ h => h) rfl ?_ ?_
                rotate_left
                · intro W hW
                  go_simp
                  try with_reducible rfl
                try simp only [Act.put, List.setIfInBounds_toArray, List.set_cons_zero, List.set_cons_succ]
                refine Reg.take 2 (v := ?_) rfl (by kernel_rfl) (fun _ _ _ h => h) rfl ?_ ?_
                rotate_left
                · intro W hW
                  go_simp
                  try with_reducible rfl
                try simp only [Act.put, List.setIfInBounds_toArray, List.set_cons_zero, List.set_cons_succ]
                refine Reg.take 3 (v := ?_) rfl (by kernel_rfl) (fun _ _ _ h => h) rfl ?_ ?_
                rotate_left
                · intro W hW
                  have q := (F6.out W hW).1
                  go_simp
                  try with_reducible rfl
                try simp only [Act.put, List.setIfInBounds_toArray, List.set_cons_zero, List.set_cons_succ]
                refine Reg.take 4 (v := ?_) rfl (by kernel_rfl) (fun _ _ _ h => h) rfl ?_ ?_
                rotate_left
                · intro W hW
                  go_simp
                  try with_reducible rfl
                try simp only [Act.put, List.setIfInBounds_toArray, List.set_cons_zero, List.set_cons_succ]
                refine Reg.take 5 (v := ?_) rfl (by kernel_rfl) (fun _ _ _ h => h) rfl ?_ ?_
                rotate_left
                · intro W hW
                  go_simp
                  try with_reducible rfl
                try simp only [Act.put, List.setIfInBounds_toArray, List.set_cons_zero, List.set_cons_succ]
                refine Reg.take 6 (v := ?_) rfl (by kernel_rfl) (fun _ _ _ h => h) rfl ?_ ?_
                rotate_left
                · intro W hW
                  go_simp
                  try with_reducible rfl
                try simp only [Act.put, List.setIfInBounds_toArray, List.set_cons_zero, List.set_cons_succ]
                refine Reg.take 7 (v := ?_) rfl (by kernel_rfl) (fun _ _ _ h => h) rfl ?_ ?_
                rotate_left
                · intro W hW
                  have q := (F6.out W hW).2
                  go_simp
                  try with_reducible rfl
                try simp only [Act.put, List.setIfInBounds_toArray, List.set_cons_zero, List.set_cons_succ]
                refine Reg.take 8 (v := ?_) rfl (by kernel_rfl) (fun _ _ _ h => h) rfl ?_ ?_
                rotate_left
                · intro W hW
                  go_simp
                  try with_reducible rfl
                try simp only [Act.put, List.setIfInBounds_toArray, List.set_cons_zero, List.set_cons_succ]
                refine Reg.take 9 (v := ?_) rfl (by kernel_rfl) (fun _ _ _ h => h) rfl ?_ ?_
                rotate_left
                · intro W hW
                  go_simp
                  try with_reducible rfl
                try simp only [Act.put, List.setIfInBounds_toArray, List.set_cons_zero, List.set_cons_succ]
                refine Reg.skip 10 rfl (by kernel_rfl) (fun _ _ _ h => h) rfl ?_
                try simp only [Act.put, List.setIfInBounds_toArray, List.set_cons_zero, List.set_cons_succ]
                refine Reg.skip 11 rfl (by kernel_rfl) (fun _ _ _ h => h) rfl ?_
                try simp only [Act.put, List.setIfInBounds_toArray, List.set_cons_zero, List.set_cons_succ]
                refine Reg.skip 12 rfl (by kernel_rfl) (fun _ _ _ h => h) rfl ?_
                try simp only [Act.put, List.setIfInBounds_toArray, List.set_cons_zero, List.set_cons_succ]
                refine Reg.skip 13 rfl (by kernel_rfl) (fun _ _ _ h => h) rfl ?_
                try simp only [Act.put, List.setIfInBounds_toArray, List.set_cons_zero, List.set_cons_succ]
                refine Reg.skip 14 rfl (by kernel_rfl) (fun _ _ _ h => h) rfl ?_
                try simp only [Act.put, List.setIfInBounds_toArray, List.set_cons_zero, List.set_cons_succ]
                refine Reg.skip 15 rfl (by kernel_rfl) (fun _ _ _ h => h) rfl ?_
                try simp only [Act.put, List.setIfInBounds_toArray, List.set_cons_zero, List.set_cons_succ]
                refine Reg.skip 16 rfl (by kernel_rfl) (fun _ _ _ h => h) rfl ?_
                try simp only [Act.put, List.setIfInBounds_toArray, List.set_cons_zero, List.set_cons_succ]
                refine Reg.skip 17 rfl (by kernel_rfl) (fun _ _ _ h => h) rfl ?_
                try simp only [Act.put, List.setIfInBounds_toArray, List.set_cons_zero, List.set_cons_succ]
                refine Reg.skip 18 rfl (by kernel_rfl) (fun _ _ _ h => h) rfl ?_
                try simp only [Act.put, List.setIfInBounds_toArray, List.set_cons_zero, List.set_cons_succ]
                refine Reg.skip 19 rfl (by kernel_rfl) (fun _ _ _ h => h) rfl ?_
                try simp only [Act.put, List.setIfInBounds_toArray, List.set_cons_zero, List.set_cons_succ]
                refine Reg.skip 20 rfl (by kernel_rfl) (fun _ _ _ h => h) rfl ?_
                try simp only [Act.put, List.setIfInBounds_toArray, List.set_cons_zero, List.set_cons_succ]
                refine Reg.skip 21 rfl (by kernel_rfl) (fun _ _ _ h => h) rfl ?_
                try simp only [Act.put, List.setIfInBounds_toArray, List.set_cons_zero, List.set_cons_succ]
                refine Reg.skip 22 rfl (by kernel_rfl) (fun _ _ _ h => h) rfl ?_
                try simp only [Act.put, List.setIfInBounds_toArray, List.set_cons_zero, List.set_cons_succ]
                refine Reg.skip 23 rfl (by kernel_rfl) (fun _ _ _ h => h) rfl ?_
                try simp only [Act.put, List.setIfInBounds_toArray, List.set_cons_zero, List.set_cons_succ]
                refine Reg.skip 24 rfl (by kernel_rfl) (fun _ _ _ h => h) rfl ?_
                try simp only [Act.put, List.setIfInBounds_toArray, List.set_cons_zero, List.set_cons_succ]
                refine Reg.skip 25 rfl (by kernel_rfl) (fun _ _ _ h => h) rfl ?_
                try simp only [Act.put, List.setIfInBounds_toArray, List.set_cons_zero, List.set_cons_succ]
                refine Reg.skip 26 rfl (by kernel_rfl) (fun _ _ _ h => h) rfl ?_
                try simp only [Act.put, List.setIfInBounds_toArray, List.set_cons_zero, List.set_cons_succ]
                refine Reg.skip 27 rfl (by kernel_rfl) (fun _ _ _ h => h) rfl ?_
                try simp only [Act.put, List.setIfInBounds_toArray, List.set_cons_zero, List.set_cons_succ]
                refine Reg.skip 28 rfl (by kernel_rfl) (fun _ _ _ h => h) rfl ?_
                try simp only [Act.put, List.setIfInBounds_toArray, List.set_cons_zero, List.set_cons_succ]
                refine Reg.skip 29 rfl (by kernel_rfl) (fun _ _ _ h => h) rfl ?_
                try simp only [Act.put, List.setIfInBounds_toArray, List.set_cons_zero, List.set_cons_succ]
                refine Reg.take 30 (v := ?_) rfl (by kernel_rfl) (fun _ _ _ h => h) rfl ?_ ?_
                rotate_left
                · intro W hW
                  go_simp
                  try with_reducible rfl
                try simp only [Act.put, List.setIfInBounds_toArray, List.set_cons_zero, List.set_cons_succ]
                refine Reg.done (by kernel_rfl) ?_
                go_wp2_with fail
                go_roundw
                case rel => exact ⟨k + 1, by omega, by go_num, B22, HNH⟩
                case measure => simp [intOf]; omega
            · obtain rfl : k = i := by omega
              have HNN : Hid (∀ i' k', i' < k + 1 → k' < i' → ¬ Hit P i' k') := Lib.hid (fun i' k' h1 h2 => by
                rcases Nat.lt_or_ge i' k with h | h
                · exact HNo.out i' k' h h2
                · obtain rfl : i' = k := by omega
                  exact HNo2.out k' h2)
              go_wp2_with fail
              go_roundw
              case rel => exact ⟨k + 1, by omega, by go_num, HQ2, HNN⟩
              case measure => simp [intOf]; omega
        · exfalso
          obtain ⟨i', k', h1, h2⟩ := HCol.out
          obtain ⟨p, q, h3, _⟩ := id h2
          have := (List.getElem?_eq_some_iff.1 h3).1
          exact HNo.out i' k' (by have := HNP.out; omega) h1 h2
end Go.Proofs.Ythpmngdpgniehaa.Jr
