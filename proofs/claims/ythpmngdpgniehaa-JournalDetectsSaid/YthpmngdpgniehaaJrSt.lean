/-
  What stands by in the laws' loops over a journal: the journal, a row of shallow copies, a record's box. No conditions.
-/
import Derived.Test.YthpmngdpgniehaaJrW4
import Derived.Test.YthpmngdpgniehaaJrAll
namespace Go.Proofs.Ythpmngdpgniehaa.Jr
open Go.RowKit Go.Proofs.Ythpmngdpgniehaa.Mem Go.Proofs.Ythpmngdpgniehaa.Wr Go.Proofs.Ythpmngdpgniehaa.Opn

/-- a row of its own of records whose lists lie below B, apart from the blocks of F. -/
def InRow (B : Nat) (F : Nat → Prop) (w : World) (v : Value) (rs : List Rec) : Prop :=
  ∃ xs, w.ownsRow 0 27 12 v rs.length xs ∧ RecRow w (fun i => i < B) xs rs ∧ ∀ k, v.ownBlock = some k → B ≤ k ∧ ¬ F k
section
variable {B : Nat} {F G : Nat → Prop} {w w' : World} {v : Value} {rs : List Rec}
theorem InRow.none (B : Nat) (F : Nat → Prop) (w : World) : InRow B F w (.slice none 0 0) [] := ⟨[], World.ownsRow_nil _ _ _ _, RecRow.none _ _, fun k hk => by cases hk⟩
theorem InRow.frm (h : InRow B F w v rs) (hf : Frm G w w') (h1 : ∀ k, v.ownBlock = some k → ¬ G k) (h2 : ∀ i, i < B → ¬ G i) : InRow B F w' v rs := by
  obtain ⟨xs, a, b, c⟩ := h
  exact ⟨xs, own_frm a hf h1, b.frm hf h2, c⟩
theorem InRow.below (h : InRow B F w v rs) (hb : Below w.heap.size w w') : InRow B F w' v rs := h.frm (G := fun _ => False) (frm_none hb) (fun _ _ f => f) (fun _ _ f => f)
theorem InRow.apart (h : InRow B F w v rs) (hF : ∀ i, G i → F i ∨ w.heap.size ≤ i) : InRow B G w v rs := by
  obtain ⟨xs, a, b, c⟩ := h
  refine ⟨xs, a, b, fun k hk => ⟨(c k hk).1, fun g => ?_⟩⟩
  rcases hF k g with h | h
  · exact (c k hk).2 h
  · have := (a.lt k hk).2
    omega
theorem InRow.form (h : InRow B F w v rs) : ∃ A c, v = .slice A rs.length c ∧ RecSl w A rs := by
  obtain ⟨xs, a, b, c⟩ := h
  obtain ⟨A, cp, rfl, hs⟩ := own_form a
  exact ⟨A, cp, rfl, b.sl hs⟩
theorem in_push {W0 W1 w2 : World} {v2 : Value} {xs : List Value} {cs : Array Value} {r : Rec} (a : W0.ownsRow 0 27 12 v rs.length xs) (b : RecRow W0 (fun i => i < B) xs rs) (c : ∀ k, v.ownBlock = some k → B ≤ k ∧ ¬ F k) (hB : B ≤ W0.heap.size) (hF : ∀ i, F i → i < W0.heap.size) (hb : Below W0.heap.size W0 W1) (hr : IsRec W1 cs r) (hl : Lst (fun i => i < B) cs)
    (hg : W1.grownBy w2 v.ownBlock) (hat : v2.ownBlock = v.ownBlock ∨ v2.ownBlock = some W1.heap.size) (o2 : w2.ownsRow 0 27 12 v2 (rs.length + 1) (xs ++ cs.toList)) : InRow B F w2 v2 (rs ++ [r]) ∧ Frm (fun k => v.ownBlock = some k) W0 w2 := by
  have hf2 : Frm (fun k => v.ownBlock = some k) W1 w2 := Frm.of_grown hg fun i hi => hi
  have hf : Frm (fun k => v.ownBlock = some k) W0 w2 := ((frm_none hb).weaken fun _ _ f => f.elim).trans hf2 (fun _ _ h => h)
  have hlo : ∀ i, i < B → ¬ v.ownBlock = some i := fun i hi e => by have := (c i e).1; omega
  have hs := hb.size
  refine ⟨⟨xs ++ cs.toList, by rw [List.length_append]; exact o2, RecRow.push (b.frm hf hlo) a.1 (rec_size hr) (rec_frm hr hf2 hl hlo) hl, fun k hk => ?_⟩, hf⟩
  rcases hat with e | e
  · exact c k (by rw [← e]; exact hk)
  · rw [e] at hk
    injection hk with hk
    exact ⟨by omega, fun g => by have := hF k g; omega⟩
end
/-- a journal, a row of shallow copies, and the box of a record of the arguments. -/
structure St (w : World) (F : Nat → Prop) (g : Nat) (v : Value) (js : List Rec) (h : Nat) (vin : Value) (ins : List Rec) (gb : Nat) (cs : Array Value) (r : Rec) (W : World) : Prop where
  j : Jo F W g v js (h : Int)
  n : ∀ i, F i → w.heap.size ≤ i
  i : InRow w.heap.size F W vin ins
  kb : Blk W gb 27 cs
  ir : IsRec W cs r
  ls : Lst (fun i => i < w.heap.size) cs
  fb : ¬ F gb
  old : Below w.heap.size w W
section
variable {w W W' : World} {F : Nat → Prop} {g h gb : Nat} {v vin : Value} {js ins : List Rec} {cs : Array Value} {r : Rec}
theorem St.below (s : St w F g v js h vin ins gb cs r W) (hb : Below W.heap.size W W') : St w F g v js h vin ins gb cs r W' :=
  ⟨s.j.below hb, s.n, s.i.below hb, s.kb.below hb s.kb.lt, s.ir.below hb (Nat.le_refl _), s.ls, s.fb, s.old.trans (hb.mono s.old.size)⟩
theorem St.app {F2 : Nat → Prop} {v2 : Value} {js2 : List Rec} {h2 : Nat} (s : St w F g v js h vin ins gb cs r W) (j2 : Jo F2 W' g v2 js2 (h2 : Int)) (f2 : Frm F W W') (n2 : ∀ i, F2 i → F i ∨ W.heap.size ≤ i) : St w F2 g v2 js2 h2 vin ins gb cs r W' := by
  have hlo : ∀ i, i < w.heap.size → ¬ F i := fun i hi f => by have := s.n i f; omega
  have hi : InRow w.heap.size F2 W vin ins := s.i.apart n2
  refine ⟨j2, fun i hi => ?_, hi.frm f2 (fun k hk f => ?_) hlo, s.kb.frm f2 s.fb, rec_frm s.ir f2 s.ls hlo, s.ls, fun f => ?_, s.old.trans (f2.below s.old.size hlo)⟩
  · rcases n2 i hi with f | f
    · exact s.n i f
    · exact Nat.le_trans s.old.size f
  · obtain ⟨_, _, _, c⟩ := s.i
    exact (c k hk).2 f
  · rcases n2 gb f with f | f
    · exact s.fb f
    · have := s.kb.lt
      omega
theorem St.lstF (s : St w F g v js h vin ins gb cs r W) : Lst (fun i => ¬ F i) cs := s.ls.mono fun i hi f => by have := s.n i f; omega
theorem St.load (s : St w F g v js h vin ins gb cs r W) : (loadRow 27 (.pointer (some ⟨gb, 0, none⟩))).run Try.prog W = .ok (.agg cs) W := load_blk s.kb (rec_size s.ir)
end
end Go.Proofs.Ythpmngdpgniehaa.Jr
