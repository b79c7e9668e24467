/-
  Regions that draw their order, walked by hand: one operation at a time, a condition on the world that grows with what a call has left. No program in sight. No conditions.
-/
import Derived.Deep.RegionHeld3
import Derived.Deep.DrawnRows
import Derived.Test.YthpmngdpgniehaaMem
namespace Go.Proofs.Ythpmngdpgniehaa.Reg
open Go Go.RowKit

section
variable {P : Program} {Q : Exit → Act → World → Prop} {md : Region.Mode} {S S' : World → Prop}
/-- the world has grown, and nothing that was there is changed. -/
def SB (w : World) (W : World) : Prop := Below w.heap.size w W
theorem SB.old {w W : World} (h : SB w.drew W) : Below w.heap.size w W := ((Below.refl _ w).drew).trans h
theorem SB.all {w W : World} (h : SB w W) : Below w.heap.size w W := h
theorem stronger {ops : Array Oper} (h : ∀ w, S' w → S w) : ∀ (fuel : Nat) (listed : Array Bool) (a : Act) (w : World), wpAnyH P md ops Q S' fuel listed a w → wpAnyH P md ops Q S fuel listed a w
  | 0, _, _, _, H => H
  | fuel + 1, _, _, _, H => ⟨H.1, fun i hi => wpOp_mono (fun a' w' h' => ⟨h _ h'.1, stronger h fuel _ a' w' h'.2⟩) (H.2 i hi)⟩
theorem start {id : Nat} {ops : Array Oper} {a : Act} {w : World} (hm : P.follows .mixedOrders = true) (h : wpAnyH P .any ops Q (SB w.drew) ops.size (Array.replicate ops.size false) a w.drew) : (Code.region id ops true).wp P Q a w :=
  wp_region_held_drew hm (Below.refl _ _) fun _ => h
theorem startS {id : Nat} {ops : Array Oper} {a : Act} {w : World} (S : World → Prop) (hm : P.follows .mixedOrders = true) (hS : S w.drew) (h : wpAnyH P .any ops Q S ops.size (Array.replicate ops.size false) a w.drew) : (Code.region id ops true).wp P Q a w :=
  wp_region_held_drew hm hS fun _ => h
variable {l r : List Oper} {oi : Oper} {v : Value} {fuel : Nat} {listed : Array Bool} {a : Act} {w : World}
theorem at_drop {i : Nat} (hi : l.drop i = oi :: r) : l.toArray[i]? = some oi := by
  have h := congrArg (·[0]?) hi
  simp only [List.getElem?_drop, Nat.add_zero, List.getElem?_cons_zero] at h
  simpa using h
def mayTake (md : Region.Mode) (ops : Array Oper) (listed : Array Bool) (i : Nat) : Bool := Region.noSelect ops && Region.free md ops listed i && (Region.ready md ops listed).contains i
/-- an operation that only reads is taken first. -/
theorem takeS (i : Nat) (hi : l.drop i = oi :: r) (hf : mayTake md l.toArray listed i = true) (hQ : ∀ c a w, Q (.panic c) (a.put oi.dst v) w → Q (.panic c) a w)
    (hw : Region.wanted oi (yielded l.toArray a.tmps) = true) (hy : ∀ W, S W → (execOp a.eval oi).run P W = .ok (.value v) W) (hS : S w)
    (h : wpAnyH P md l.toArray Q S fuel (listed.setIfInBounds i true) (a.put oi.dst v) w) : wpAnyH P md l.toArray Q S (fuel + 1) listed a w := by
  unfold mayTake at hf
  simp only [Bool.and_eq_true] at hf
  exact wpAnyH_take (at_drop hi) hf.1.1 hf.1.2 hf.2 hQ (.inl ⟨hw, hy⟩) hS h
theorem take (i : Nat) (hi : l.drop i = oi :: r) (hf : mayTake md l.toArray listed i = true) (hQ : ∀ c a w, Q (.panic c) (a.put oi.dst v) w → Q (.panic c) a w)
    (hw : Region.wanted oi (yielded l.toArray a.tmps) = true) (hy : ∀ W, SB w W → (execOp a.eval oi).run P W = .ok (.value v) W)
    (h : wpAnyH P md l.toArray Q (SB w) fuel (listed.setIfInBounds i true) (a.put oi.dst v) w) : wpAnyH P md l.toArray Q (SB w) (fuel + 1) listed a w :=
  takeS i hi hf hQ hw hy (Below.refl _ _) h
/-- an operation whose guard says no. -/
theorem skipS (i : Nat) (hi : l.drop i = oi :: r) (hf : mayTake md l.toArray listed i = true) (hQ : ∀ c a w, Q (.panic c) (a.put oi.dst undef) w → Q (.panic c) a w)
    (hw : Region.wanted oi (yielded l.toArray a.tmps) = false) (hS : S w)
    (h : wpAnyH P md l.toArray Q S fuel (listed.setIfInBounds i true) (a.put oi.dst undef) w) : wpAnyH P md l.toArray Q S (fuel + 1) listed a w := by
  unfold mayTake at hf
  simp only [Bool.and_eq_true] at hf
  exact wpAnyH_take (at_drop hi) hf.1.1 hf.1.2 hf.2 hQ (.inr ⟨hw, rfl⟩) hS h
theorem skip (i : Nat) (hi : l.drop i = oi :: r) (hf : mayTake md l.toArray listed i = true) (hQ : ∀ c a w, Q (.panic c) (a.put oi.dst undef) w → Q (.panic c) a w)
    (hw : Region.wanted oi (yielded l.toArray a.tmps) = false)
    (h : wpAnyH P md l.toArray Q (SB w) fuel (listed.setIfInBounds i true) (a.put oi.dst undef) w) : wpAnyH P md l.toArray Q (SB w) (fuel + 1) listed a w :=
  skipS i hi hf hQ hw (Below.refl _ _) h
/-- the one operation that may come up comes up. -/
theorem doS (i : Nat) (hi : l.drop i = oi :: r) (hf : Region.ready md l.toArray listed = [i]) (hw : Region.wanted oi (yielded l.toArray a.tmps) = true)
    (h : ∀ K : Act → World → Prop, Shut (∀ a' w', S w' → wpAnyH P md l.toArray Q S fuel (listed.setIfInBounds i true) a' w' → K a' w') → Oper.wp P oi a w K Q) : wpAnyH P md l.toArray Q S (fuel + 1) listed a w := by
  refine wpAnyH_ready hf (by simp) (AllReadyH.cons (at_drop hi) (fun K hK => ?_) AllReadyH.nil)
  rw [if_pos hw]
  exact h K (fun a' w' h1 h2 => hK.out a' w' h1 fun _ => h2)
theorem do_ (i : Nat) (hi : l.drop i = oi :: r) (hf : Region.ready md l.toArray listed = [i]) (hw : Region.wanted oi (yielded l.toArray a.tmps) = true)
    (h : ∀ K : Act → World → Prop, Shut (∀ a' w', Below w.heap.size w w' → wpAnyH P md l.toArray Q (SB w') fuel (listed.setIfInBounds i true) a' w' → K a' w') → Oper.wp P oi a w K Q) : wpAnyH P md l.toArray Q (SB w) (fuel + 1) listed a w :=
  doS i hi hf hw fun K hK => h K fun a' w' hb hn => hK.out a' w' hb (stronger (fun _ h => hb.trans (Below.mono h hb.size)) _ _ _ _ hn)
theorem done {ops : Array Oper} (hr : Region.ready md ops listed = []) (h : Q .normal a w) : wpAnyH P md ops Q S fuel listed a w := wpAnyH_done hr h fuel
end
end Go.Proofs.Ythpmngdpgniehaa.Reg
