/-
  Lists of records in memory; the walk of reconcile.Locate and of its reference: the first index at which two lists differ. Conditions: the lists lie in memory.
-/
import Derived.Test.YtlfcbfaoecdmoaaJrSame
import Derived.Test.YtlfcbfaoecdmoaaMem2
import Derived.Deep.RegionHeld3
namespace Go.Proofs.Ytlfcbfaoecdmoaa.Jr
open Go.RowKit Go.Proofs.Ytlfcbfaoecdmoaa.Mem Go.Proofs.Ytlfcbfaoecdmoaa.Eqs

/-- a slice of records that reads as rs. -/
def RecSl (w : World) (A : Option Addr) (rs : List Rec) : Prop :=
  ∀ k r, rs[k]? = some r → ∃ b off cs, A = some ⟨b, off, none⟩ ∧ cs.size = 12 ∧ IsRec w cs r ∧ ∀ j v, cs[j]? = some v → w.cell? ⟨b, off + k * 12 + j, none⟩ = some v
theorem RecSl.keep {w w' : World} {A : Option Addr} {rs : List Rec} (h : RecSl w A rs) (hk : ∀ p : Addr, p.block < w.heap.size → w'.cell? p = w.cell? p) : RecSl w' A rs := by
  intro k r hr
  obtain ⟨b, off, cs, e, hn, hi, hc⟩ := h k r hr
  exact ⟨b, off, cs, e, hn, hi.keep hk, fun j v hv => (hk _ (World.block_lt_of_cell? w ⟨b, off + k * 12 + j, none⟩ (hc j v hv))).trans (hc j v hv)⟩
theorem RecSl.below {w w' : World} {A : Option Addr} {rs : List Rec} {B : Nat} (h : RecSl w A rs) (hb : Below B w w') (hB : w.heap.size ≤ B) : RecSl w' A rs := h.keep fun _ hp => hb.cell (Nat.lt_of_lt_of_le hp hB)
theorem RecSl.drewN {w : World} {A : Option Addr} {rs : List Rec} (h : RecSl w A rs) (n : Nat) : RecSl (w.drewN n) A rs := h.keep fun _ _ => rfl

def differ (rs ss : List Rec) (k : Nat) : Int :=
  match rs[k]?, ss[k]? with
  | some r, some s => if r.same s then 0 else 29
  | _, _ => 28
/-- the first index from k on at which two lists differ, among so many. -/
def locG (rs ss : List Rec) : Nat → Nat → Int × Int
  | _, 0 => (-1, 0)
  | k, f + 1 => if differ rs ss k = 0 then locG rs ss (k + 1) f else ((k : Int), differ rs ss k)
def loc (rs ss : List Rec) : Int × Int := locG rs ss 0 (max rs.length ss.length)
abbrev finding (p : Int × Int) : Value := .agg #[.int .i64 p.1, .int .i64 p.2]

theorem size_rec : (Try.prog.info? 48).map (·.size) = some 12 := by kernel_rfl
theorem exec_load_rec (ρ : Operand → Value) (dst : Option Tmp) (x : Operand) (ty : TypeId) (pos : String) (after : Array Edge) (guard : Option (Nat × Bool)) :
    execOp ρ { dst, op := .load 48 x, type := ty, pos, after, guard } = (do pure (.value (← loadRow 48 (ρ x)))) := rfl
attribute [local go_sem ↓] exec_load_rec
theorem load_rec {W : World} {b off : Nat} {cs : Array Value} (h : ∀ j v, cs[j]? = some v → W.cell? ⟨b, off + j, none⟩ = some v) (hn : cs.size = 12) :
    (loadRow 48 (.pointer (some ⟨b, off, none⟩))).run Try.prog W = .ok (.agg cs) W := run_loadRow_at h hn Try.underlying48 size_rec

theorem same_any (cs ds : Array Value) (r s : Rec) (w : World) (hr : IsRec w cs r) (hs : IsRec w ds s) :
    Calls Try.prog 22 #[.agg cs, .agg ds] w fun e w' => e = .returned (.bool (r.same s)) ∧ Below w.heap.size w w' := by
  obtain ⟨A7, c7, A11, c11, rfl, h7, h11, l7, l11⟩ := hr
  obtain ⟨B7, d7, B11, d11, rfl, g7, g11, _, _⟩ := hs
  exact same_core r s A7 c7 A11 c11 B7 d7 B11 d11 w h7 h11 g7 g11 l7 l11

set_option maxRecDepth 100000 in
set_option maxHeartbeats 1000000 in
theorem locate1_in (rs ss : List Rec) (A B : Option Addr) (n m ca cb k : Nat) (p q : Nat) (w : World) (hn : rs.length = n) (hm : ss.length = m) (hp : w.cell? ⟨p, 0, none⟩ = some (.slice A n ca)) (hq : w.cell? ⟨q, 0, none⟩ = some (.slice B m cb))
    (ha : RecSl w A rs) (hb : RecSl w B ss) (h1 : k < n) (h2 : k < m) :
    Calls Try.prog 24 #[.int .i64 k, .pointer (some ⟨p, 0, none⟩), .pointer (some ⟨q, 0, none⟩)] w fun e w' => e = .returned (.int .i64 (differ rs ss k)) ∧ Below w.heap.size w w' := by
  have h1' : k < rs.length := by omega
  have h2' : k < ss.length := by omega
  obtain ⟨b1, o1, cs, rfl, n1, i1, c1⟩ := ha k _ (List.getElem?_eq_getElem h1')
  obtain ⟨b2, o2, ds, rfl, n2, i2, c2⟩ := hb k _ (List.getElem?_eq_getElem h2')
  have HD : Hid (differ rs ss k = if (rs[k].same ss[k]) = true then 0 else 29) := by
    show _ = _
    unfold differ
    rw [List.getElem?_eq_getElem h1', List.getElem?_eq_getElem h2']
  have l1 := load_rec (W := w) (b := b1) (off := o1 + k * 12) c1 n1
  have l2 := load_rec (W := w) (b := b2) (off := o2 + k * 12) c2 n2
  have hi1 : (k : Int) < (n : Int) := by omega
  have hi2 : (k : Int) < (m : Int) := by omega
  have h0i : (0 : Int) ≤ (k : Int) := by omega
  have t1 : decide (n ≤ k) = false := by simp; omega
  have t2 : decide (m ≤ k) = false := by simp; omega
  generalize rs[k] = r at *
  generalize ss[k] = s at *
  generalize differ rs ss k = D at *
  have I1 := Lib.hid i1
  have I2 := Lib.hid i2
  have K : Hid (∀ W, (∀ p : Addr, p.block < w.heap.size → W.cell? p = w.cell? p) → W.cell? ⟨p, 0, none⟩ = some (.slice (some ⟨b1, o1, none⟩) n ca) ∧ W.cell? ⟨q, 0, none⟩ = some (.slice (some ⟨b2, o2, none⟩) m cb) ∧
      (loadRow 48 (.pointer (some ⟨b1, o1 + k * 12, none⟩))).run Try.prog W = .ok (.agg cs) W ∧ (loadRow 48 (.pointer (some ⟨b2, o2 + k * 12, none⟩))).run Try.prog W = .ok (.agg ds) W) := by
    intro W hW
    exact ⟨(hW _ (World.block_lt_of_cell? w _ hp)).trans hp, (hW _ (World.block_lt_of_cell? w _ hq)).trans hq,
      load_rec (fun j v hv => (hW _ (World.block_lt_of_cell? w ⟨b1, o1 + k * 12 + j, none⟩ (c1 j v hv))).trans (c1 j v hv)) n1,
      load_rec (fun j v hv => (hW _ (World.block_lt_of_cell? w ⟨b2, o2 + k * 12 + j, none⟩ (c2 j v hv))).trans (c2 j v hv)) n2⟩
  clear ha hb c1 c2 n1 n2 i1 i2 hn hm h1' h2'
  go_enter Try.func24, Try.ntmps24
  go_wp2_with fail
  go_region_held3 (fun W => W.cell? ⟨p, 0, none⟩ = some (.slice (some ⟨b1, o1, none⟩) n ca) ∧ W.cell? ⟨q, 0, none⟩ = some (.slice (some ⟨b2, o2, none⟩) m cb) ∧
      (loadRow 48 (.pointer (some ⟨b1, o1 + k * 12, none⟩))).run Try.prog W = .ok (.agg cs) W ∧ (loadRow 48 (.pointer (some ⟨b2, o2 + k * 12, none⟩))).run Try.prog W = .ok (.agg ds) W)
    (first
      | exact K.out _ (fun _ _ => rfl)
      | exact K.out _ (fun _ hx => hb1.cell (by simpa using hx)))
    (first
      | (go_at_call 22; refine (same_any cs ds r s _ (by exact I1.out.keep fun _ _ => rfl) (by exact I2.out.keep fun _ _ => rfl)).mono ?_; rintro e w1 ⟨rfl, hb1⟩))
  have HB : Hid (Below w.heap.size w w1) := (Below.refl _ w).drew.trans (hb1.mono (by simp))
  cases hs : r.same s with
  | true =>
    have HE : Hid (D = 0) := by have := HD.out; rw [hs] at this; exact this
    clear hb1 l1 l2
    go_wp2_with fail
    go_ret
    exact ⟨by rw [HE.out]; rfl, HB.out⟩
  | false =>
    have HE : Hid (D = 29) := by have := HD.out; rw [hs] at this; exact this
    clear hb1 l1 l2
    go_wp2_with fail
    go_ret
    exact ⟨by rw [HE.out]; rfl, HB.out⟩

set_option maxHeartbeats 1000000 in
theorem locate1_out (rs ss : List Rec) (A B : Option Addr) (n m ca cb k : Nat) (p q : Nat) (w : World) (hn : rs.length = n) (hm : ss.length = m) (hp : w.cell? ⟨p, 0, none⟩ = some (.slice A n ca)) (hq : w.cell? ⟨q, 0, none⟩ = some (.slice B m cb))
    (h : n ≤ k ∨ m ≤ k) :
    Calls Try.prog 24 #[.int .i64 k, .pointer (some ⟨p, 0, none⟩), .pointer (some ⟨q, 0, none⟩)] w fun e w' => e = .returned (.int .i64 (differ rs ss k)) ∧ Below w.heap.size w w' := by
  have HD : Hid (differ rs ss k = 28) := by
    show _ = _
    unfold differ
    rcases h with h | h
    · rw [List.getElem?_eq_none (by omega)]
    · rw [show ss[k]? = none from List.getElem?_eq_none (by omega)]
      cases rs[k]? <;> rfl
  generalize differ rs ss k = D at *
  clear hn hm
  rcases h with h | h
  · have t1 : decide (n ≤ k) = true := by simpa using h
    go_enter Try.func24, Try.ntmps24
    go_wp2_with fail
    go_ret
    exact ⟨by rw [HD.out]; rfl, Below.refl _ _⟩
  · by_cases h1 : n ≤ k
    · have t1 : decide (n ≤ k) = true := by simpa using h1
      go_enter Try.func24, Try.ntmps24
      go_wp2_with fail
      go_ret
      exact ⟨by rw [HD.out]; rfl, Below.refl _ _⟩
    · have t1 : decide (n ≤ k) = false := by simpa using h1
      have t2 : decide (m ≤ k) = true := by simpa using h
      go_enter Try.func24, Try.ntmps24
      go_wp2_with fail
      go_ret
      exact ⟨by rw [HD.out]; rfl, Below.refl _ _⟩
theorem locate1_any (rs ss : List Rec) (A B : Option Addr) (n m ca cb k : Nat) (p q : Nat) (w : World) (hn : rs.length = n) (hm : ss.length = m) (hp : w.cell? ⟨p, 0, none⟩ = some (.slice A n ca)) (hq : w.cell? ⟨q, 0, none⟩ = some (.slice B m cb))
    (ha : RecSl w A rs) (hb : RecSl w B ss) :
    Calls Try.prog 24 #[.int .i64 k, .pointer (some ⟨p, 0, none⟩), .pointer (some ⟨q, 0, none⟩)] w fun e w' => e = .returned (.int .i64 (differ rs ss k)) ∧ Below w.heap.size w w' := by
  by_cases h : n ≤ k ∨ m ≤ k
  · exact locate1_out rs ss A B n m ca cb k p q w hn hm hp hq h
  · exact locate1_in rs ss A B n m ca cb k p q w hn hm hp hq ha hb (by omega) (by omega)
end Go.Proofs.Ytlfcbfaoecdmoaa.Jr
