/-
  The journal's object in memory: rows of records whose lists are its own; what a call may write. No conditions.
-/
import Derived.Test.YthpmngdpgniehaaJrApH
import Derived.Test.YthpmngdpgniehaaJrLoc
namespace Go.Proofs.Ythpmngdpgniehaa.Jr
open Go.RowKit Go.Proofs.Ythpmngdpgniehaa.Mem Go.Proofs.Ythpmngdpgniehaa.Wr Go.Proofs.Ythpmngdpgniehaa.Opn

theorem sl_frm {F : Nat → Prop} {w w' : World} {size n : Nat} {A : Option Addr} {xs : List Value} (h : Sl w size A n xs) (hf : Frm F w w') (hn : 0 < n → ∀ a, A = some a → ¬ F a.block) : Sl w' size A n xs :=
  ⟨h.1, fun h0 => by
    obtain ⟨b, off, rfl, hc⟩ := h.2 h0
    exact ⟨b, off, rfl, fun j u hu => hf.cell (p := ⟨b, off + j, none⟩) (hc j u hu) (hn h0 ⟨b, off, none⟩ rfl)⟩⟩
theorem rec_frm {w w' : World} {G L : Nat → Prop} {cs : Array Value} {r : Rec} (h : IsRec w cs r) (hf : Frm G w w') (hl : Lst L cs) (hd : ∀ i, L i → ¬ G i) : IsRec w' cs r := by
  obtain ⟨A7, c7, A11, c11, rfl, h7, h11, l7, l11⟩ := h
  exact ⟨A7, c7, A11, c11, rfl, sl_frm h7 hf (fun h0 a ha => hd _ (hl a _ c7 h0 (.inl (by rw [ha]; rfl)))), sl_frm h11 hf (fun h0 a ha => hd _ (hl a _ c11 h0 (.inr (by rw [ha]; rfl)))), l7, l11⟩
theorem lst_lt {w : World} {cs : Array Value} {r : Rec} (h : IsRec w cs r) : Lst (fun i => i < w.heap.size) cs := by
  obtain ⟨A7, c7, A11, c11, rfl, h7, h11, l7, l11⟩ := h
  intro a n c hn h
  rcases h with h | h
  · injection h with h
    injection h with h h2 _
    exact sl_old h7 (by omega) a h
  · injection h with h
    injection h with h h2 _
    exact sl_old h11 (by omega) a h
theorem Lst.and {L M : Nat → Prop} {cs : Array Value} (h : Lst L cs) (k : Lst M cs) : Lst (fun i => L i ∧ M i) cs := fun a n c hn hc => ⟨h a n c hn hc, k a n c hn hc⟩
theorem Lst.mono {L M : Nat → Prop} {cs : Array Value} (h : Lst L cs) (k : ∀ i, L i → M i) : Lst M cs := fun a n c hn hc => k _ (h a n c hn hc)

/-- cells that read as records, whose lists lie in blocks of L. -/
def RecRow (w : World) (L : Nat → Prop) (xs : List Value) (rs : List Rec) : Prop := ∀ k r, rs[k]? = some r → ∃ cs, cs.size = 12 ∧ IsRec w cs r ∧ Lst L cs ∧ ∀ j u, cs[j]? = some u → xs[k * 12 + j]? = some u
theorem RecRow.frm {w w' : World} {G L : Nat → Prop} {xs : List Value} {rs : List Rec} (h : RecRow w L xs rs) (hf : Frm G w w') (hd : ∀ i, L i → ¬ G i) : RecRow w' L xs rs := fun k r hr => by
  obtain ⟨cs, h1, h2, h3, h4⟩ := h k r hr
  exact ⟨cs, h1, rec_frm h2 hf h3 hd, h3, h4⟩
theorem RecRow.mono {w : World} {L M : Nat → Prop} {xs : List Value} {rs : List Rec} (h : RecRow w L xs rs) (k : ∀ i, L i → M i) : RecRow w M xs rs := fun i r hr => by
  obtain ⟨cs, h1, h2, h3, h4⟩ := h i r hr
  exact ⟨cs, h1, h2, h3.mono k, h4⟩
theorem RecRow.none (w : World) (L : Nat → Prop) : RecRow w L [] [] := fun k r hr => by simp at hr
theorem RecRow.push {w : World} {L : Nat → Prop} {xs : List Value} {rs : List Rec} {cs : Array Value} {r : Rec} (h : RecRow w L xs rs) (hx : xs.length = rs.length * 12) (hc : cs.size = 12) (hr : IsRec w cs r) (hl : Lst L cs) : RecRow w L (xs ++ cs.toList) (rs ++ [r]) := by
  intro k s hs
  by_cases hk : k < rs.length
  · rw [List.getElem?_append_left hk] at hs
    obtain ⟨ds, h1, h2, h3, h4⟩ := h k s hs
    refine ⟨ds, h1, h2, h3, fun j u hu => ?_⟩
    have hj : j < 12 := by have := (Array.getElem?_eq_some_iff.1 hu).1; omega
    rw [List.getElem?_append_left (by omega)]
    exact h4 j u hu
  · have hk2 : k = rs.length := by
      have := (List.getElem?_eq_some_iff.1 hs).1
      simp at this
      omega
    subst hk2
    have e : r = s := by simpa using hs
    subst e
    refine ⟨cs, hc, hr, hl, fun j u hu => ?_⟩
    rw [List.getElem?_append_right (by omega), hx, Nat.add_sub_cancel_left, Array.getElem?_toList]
    exact hu
theorem RecRow.sl {w : World} {L : Nat → Prop} {xs : List Value} {rs : List Rec} {A : Option Addr} (h : RecRow w L xs rs) (hs : Sl w 12 A rs.length xs) : RecSl w A rs := by
  intro k r hr
  have hk := (List.getElem?_eq_some_iff.1 hr).1
  obtain ⟨cs, h1, h2, _, h4⟩ := h k r hr
  obtain ⟨b, off, rfl, hc⟩ := hs.2 (by omega)
  exact ⟨b, off, cs, rfl, h1, h2, fun j u hu => by rw [Nat.add_assoc]; exact hc _ u (h4 j u hu)⟩

/-- a row of records of an object's own: the row v and the lists lie in blocks of F, apart from each other and from the blocks of O. -/
def RowX (F O : Nat → Prop) (w : World) (v : Value) (rs : List Rec) (xs : List Value) (L : Nat → Prop) : Prop :=
  w.ownsRow 0 27 12 v rs.length xs ∧ RecRow w L xs rs ∧ (∀ k, v.ownBlock = some k → F k ∧ ¬ O k) ∧ ∀ i, L i → F i ∧ ¬ O i ∧ v.ownBlock ≠ some i
def Row (F O : Nat → Prop) (w : World) (v : Value) (rs : List Rec) : Prop := ∃ xs L, RowX F O w v rs xs L
theorem Row.frm {F O G : Nat → Prop} {w w' : World} {v : Value} {rs : List Rec} (h : Row F O w v rs) (hf : Frm G w w') (hd : ∀ i, F i → ¬ O i → ¬ G i) : Row F O w' v rs := by
  obtain ⟨xs, L, h1, h2, h3, h4⟩ := h
  exact ⟨xs, L, own_frm h1 hf (fun k hk => hd k (h3 k hk).1 (h3 k hk).2), h2.frm hf (fun i hi => hd i (h4 i hi).1 (h4 i hi).2.1), h3, h4⟩
theorem Row.mono {F F' O : Nat → Prop} {w : World} {v : Value} {rs : List Rec} (h : Row F O w v rs) (k : ∀ i, F i → F' i) : Row F' O w v rs := by
  obtain ⟨xs, L, h1, h2, h3, h4⟩ := h
  exact ⟨xs, L, h1, h2, fun i hi => ⟨k i (h3 i hi).1, (h3 i hi).2⟩, fun i hi => ⟨k i (h4 i hi).1, (h4 i hi).2⟩⟩
theorem Row.none (F O : Nat → Prop) (w : World) : Row F O w (.slice none 0 0) [] := ⟨[], fun _ => False, World.ownsRow_nil _ _ _ _, RecRow.none _ _, (fun k hk => by cases hk), fun i hi => hi.elim⟩
theorem Row.form {F O : Nat → Prop} {w : World} {v : Value} {rs : List Rec} (h : Row F O w v rs) : ∃ A c, v = .slice A rs.length c ∧ RecSl w A rs ∧ rs.length ≤ c := by
  obtain ⟨xs, L, h1, h2, h3, h4⟩ := h
  obtain ⟨A, c, rfl, hs⟩ := own_form h1
  refine ⟨A, c, rfl, h2.sl hs, ?_⟩
  rcases h1.2 with ⟨e, h0⟩ | ⟨g, cap, cur, e, _, _, hn, _⟩
  · omega
  · injection e with _ _ e
    omega
/-- one record more. -/
theorem row_push {F O : Nat → Prop} {W0 W1 w2 : World} {v v2 : Value} {rs : List Rec} {cs : Array Value} {r : Rec} {xs : List Value} {L : Nat → Prop} (h : RowX F O W0 v rs xs L) (hO : ∀ i, O i → i < W0.heap.size) (hF : ∀ i, F i → i < W0.heap.size) (h01 : Frm (fun _ => False) W0 W1) (hr : IsRec W1 cs r) (hc : cs.size = 12) (hl : Lst (fun i => W0.heap.size ≤ i) cs)
    (hg : W1.grownBy w2 v.ownBlock) (hat : v2.ownBlock = v.ownBlock ∨ v2.ownBlock = some W1.heap.size) (o2 : w2.ownsRow 0 27 12 v2 (rs.length + 1) (xs ++ cs.toList)) :
    Row (fun i => F i ∨ (W0.heap.size ≤ i ∧ i < w2.heap.size)) O w2 v2 (rs ++ [r]) ∧ Frm (fun k => v.ownBlock = some k) W0 w2 := by
  obtain ⟨h1, h2, h3, h4⟩ := h
  have hf : Frm (fun k => v.ownBlock = some k) W0 w2 := (h01.weaken fun _ _ f => f.elim).trans (Frm.of_grown hg fun i hi => hi) (fun _ _ h => h)
  have hlt := lst_lt hr
  have hs1 := h01.size
  have hs2 := hg.size
  have hv : ∀ k, v2.ownBlock = some k → k < w2.heap.size := fun k hk => (o2.lt k hk).2
  refine ⟨⟨xs ++ cs.toList, fun i => L i ∨ (W0.heap.size ≤ i ∧ i < W1.heap.size), by rw [List.length_append]; exact o2, ?_, ?_, ?_⟩, hf⟩
  · refine RecRow.push ((h2.frm hf fun i hi => (h4 i hi).2.2).mono fun i hi => .inl hi) h1.1 hc ?_ ((hl.and hlt).mono fun i hi => .inr hi)
    refine rec_frm (L := fun i => W0.heap.size ≤ i) hr (Frm.of_grown (F := fun k => v.ownBlock = some k) hg fun i hi => hi) hl fun i hi e => ?_
    have := hF i (h3 i e).1
    omega
  · intro k hk
    rcases hat with e | e
    · exact ⟨.inl (h3 k (by rw [← e]; exact hk)).1, (h3 k (by rw [← e]; exact hk)).2⟩
    · rw [e] at hk
      injection hk with hk
      exact ⟨.inr ⟨by omega, hv k (by rw [e, hk])⟩, fun ho => by have := hO k ho; omega⟩
  · intro i hi
    rcases hi with hi | hi
    · obtain ⟨a1, a2, a3⟩ := h4 i hi
      refine ⟨.inl a1, a2, fun e => ?_⟩
      rcases hat with e2 | e2
      · exact a3 (by rw [← e2]; exact e)
      · rw [e2] at e
        injection e with e
        have := hF i a1
        omega
    · refine ⟨.inr ⟨hi.1, by omega⟩, fun ho => by have := hO i ho; omega, fun e => ?_⟩
      rcases hat with e2 | e2
      · rw [e2] at e
        have := hF i (h3 i e).1
        omega
      · rw [e2] at e
        injection e with e
        omega

/-- block g is the journal of these records with this hash; all its blocks are in F. -/
def Jo (F : Nat → Prop) (w : World) (g : Nat) (v : Value) (rs : List Rec) (h : Int) : Prop :=
  Blk w g 58 #[v, .int .u64 h] ∧ F g ∧ (∀ i, F i → i < w.heap.size) ∧ Row F (· = g) w v rs
theorem Jo.frm {F G : Nat → Prop} {w w' : World} {g : Nat} {v : Value} {rs : List Rec} {h : Int} (hj : Jo F w g v rs h) (hf : Frm G w w') (hd : ∀ i, F i → ¬ G i) : Jo F w' g v rs h :=
  ⟨hj.1.frm hf (hd g hj.2.1), hj.2.1, fun i hi => Nat.lt_of_lt_of_le (hj.2.2.1 i hi) hf.size, hj.2.2.2.frm hf fun i hi _ => hd i hi⟩
theorem Jo.below {F : Nat → Prop} {w w' : World} {g : Nat} {v : Value} {rs : List Rec} {h : Int} (hj : Jo F w g v rs h) (hb : Below w.heap.size w w') : Jo F w' g v rs h :=
  hj.frm (G := fun _ => False) (Frm.of_below hb fun i hi hg => by omega) fun _ _ f => f
/-- what a call has done with a journal. -/
def JoPost (F : Nat → Prop) (g : Nat) (rs : List Rec) (h : Int) (x : Value) (w : World) (e : Ending) (w' : World) : Prop :=
  e = .returned x ∧ ∃ F' v', Jo F' w' g v' rs h ∧ Frm F w w' ∧ ∀ i, F' i → F i ∨ w.heap.size ≤ i
theorem jo_same {F : Nat → Prop} {w w' : World} {g : Nat} {v : Value} {rs : List Rec} {h : Int} {x : Value} (hj : Jo F w g v rs h) (hb : Below w.heap.size w w') : JoPost F g rs h x w (.returned x) w' :=
  ⟨rfl, F, v, hj.below hb, Frm.of_below hb fun i hi hg => by omega, fun i hi => .inl hi⟩
/-- the row stored into the object. -/
theorem jo_store {F : Nat → Prop} {W0 W1 w2 : World} {g : Nat} {v v2 : Value} {rs : List Rec} {h : Int} {cs : Array Value} {r : Rec} {xs : List Value} {L : Nat → Prop} (hj : Jo F W0 g v rs h) (hx : RowX F (· = g) W0 v rs xs L) (h01 : Frm (fun _ => False) W0 W1) (hr : IsRec W1 cs r) (hc : cs.size = 12) (hl : Lst (fun i => W0.heap.size ≤ i) cs)
    (hg : W1.grownBy w2 v.ownBlock) (hat : v2.ownBlock = v.ownBlock ∨ v2.ownBlock = some W1.heap.size) (o2 : w2.ownsRow 0 27 12 v2 (rs.length + 1) (xs ++ cs.toList)) :
    ∃ F', Jo F' (w2.setCell ⟨g, 0, none⟩ v2) g v2 (rs ++ [r]) h ∧ Frm F W0 (w2.setCell ⟨g, 0, none⟩ v2) ∧ ∀ i, F' i → F i ∨ W0.heap.size ≤ i := by
  obtain ⟨hb, hFg, hF, hrow⟩ := hj
  have hO : ∀ i, i = g → i < W0.heap.size := fun i e => by rw [e]; exact hF g hFg
  obtain ⟨hp, hf⟩ := row_push (O := (· = g)) hx hO hF h01 hr hc hl hg hat o2
  have hFv : ∀ k, v.ownBlock = some k → F k ∧ ¬ k = g := hx.2.2.1
  have hb2 : Blk w2 g 58 #[v, .int .u64 h] := hb.frm hf fun e => (hFv g e).2 rfl
  have hS : Frm (· = g) w2 (w2.setCell ⟨g, 0, none⟩ v2) := (Frm.refl (· = g) w2).setCell (fun _ => rfl) _
  refine ⟨_, ⟨hb2.put 0 v2, .inl hFg, fun i hi => ?_, hp.frm hS fun i _ hn e => hn e⟩, ?_, fun i hi => ?_⟩
  · refine Nat.lt_of_lt_of_le ?_ hS.size
    rcases hi with hi | hi
    · exact Nat.lt_of_lt_of_le (hF i hi) hf.size
    · exact hi.2
  · exact (hf.weaken (G := F) fun i _ hi => (hFv i hi).1).trans (hS.weaken (G := F) fun i _ e => by rw [e]; exact hFg) (fun _ _ h => h)
  · exact hi.imp id fun h => h.1
/-- the hash stored into the object. -/
theorem jo_hash {F : Nat → Prop} {W : World} {g : Nat} {v : Value} {rs : List Rec} {h h2 : Int} (hj : Jo F W g v rs h) : Jo F (W.setCell ⟨g, 1, none⟩ (.int .u64 h2)) g v rs h2 ∧ Frm (· = g) W (W.setCell ⟨g, 1, none⟩ (.int .u64 h2)) := by
  obtain ⟨hb, hFg, hF, hrow⟩ := hj
  have hS : Frm (· = g) W (W.setCell ⟨g, 1, none⟩ (.int .u64 h2)) := (Frm.refl (· = g) W).setCell (fun _ => rfl) _
  exact ⟨⟨hb.put 1 _, hFg, fun i hi => Nat.lt_of_lt_of_le (hF i hi) hS.size, hrow.frm hS fun i _ hn e => hn e⟩, hS⟩
theorem rec_size {w : World} {cs : Array Value} {r : Rec} (h : IsRec w cs r) : cs.size = 12 := by
  obtain ⟨A7, c7, A11, c11, rfl, _⟩ := h
  rfl
theorem rec_one {w : World} {cs : Array Value} {r : Rec} (h : IsRec w cs r) : cs.toList.all (·.oneCell') = true := by
  obtain ⟨A7, c7, A11, c11, rfl, _⟩ := h
  rfl
theorem rec_ones {w : World} {cs : Array Value} {r : Rec} (h : IsRec w cs r) : ∀ u ∈ cs.toList, u.oneCell' = true := fun u hu => List.all_eq_true.1 (rec_one h) u hu
theorem new_row (w : World) (cs : Array Value) (t : TypeId) {g : Nat} (hg : g = w.heap.size) (hs : cs.size = 12) : Sl (w.alloc (.cells cs t)) 12 (some ⟨g, 0, none⟩) 1 cs.toList :=
  ⟨by rw [Array.length_toList, hs], fun _ => ⟨g, 0, rfl, fun j u hu => by rw [hg, World.cell?_alloc_mark]; simpa using hu⟩⟩
end Go.Proofs.Ythpmngdpgniehaa.Jr
