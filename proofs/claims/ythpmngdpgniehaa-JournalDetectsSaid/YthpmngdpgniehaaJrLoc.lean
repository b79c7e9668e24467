/-
  Lists of records in memory; the walk of reconcile.Locate and of its reference: the first index at which two lists differ. Conditions: the lists lie in memory.
-/
import Derived.Test.YthpmngdpgniehaaJrSame
import Derived.Test.YthpmngdpgniehaaMem2
import Derived.Deep.RegionHeld3
namespace Go.Proofs.Ythpmngdpgniehaa.Jr
open Go.RowKit Go.Proofs.Ythpmngdpgniehaa.Mem Go.Proofs.Ythpmngdpgniehaa.Eqs

/-- a slice of records that reads as rs. -/
def RecSl (w : World) (A : Option Addr) (rs : List Rec) : Prop :=
  ∀ k r, rs[k]? = some r → ∃ b off cs, A = some ⟨b, off, none⟩ ∧ cs.size = 12 ∧ IsRec w cs r ∧ ∀ j v, cs[j]? = some v → w.cell? ⟨b, off + k * 12 + j, none⟩ = some v
theorem RecSl.keep {w w' : World} {A : Option Addr} {rs : List Rec} (h : RecSl w A rs) (hk : ∀ p : Addr, p.block < w.heap.size → w'.cell? p = w.cell? p) : RecSl w' A rs := by
  intro k r hr
  obtain ⟨b, off, cs, e, hn, hi, hc⟩ := h k r hr
  exact ⟨b, off, cs, e, hn, hi.keep hk, fun j v hv => (hk _ (World.block_lt_of_cell? w ⟨b, off + k * 12 + j, none⟩ (hc j v hv))).trans (hc j v hv)⟩
theorem RecSl.below {w w' : World} {A : Option Addr} {rs : List Rec} {B : Nat} (h : RecSl w A rs) (hb : Below B w w') (hB : w.heap.size ≤ B) : RecSl w' A rs := h.keep fun _ hp => hb.cell (Nat.lt_of_lt_of_le hp hB)
theorem RecSl.drewN {w : World} {A : Option Addr} {rs : List Rec} (h : RecSl w A rs) (n : Nat) : RecSl (w.drewN n) A rs := h.keep fun _ _ => rfl

def differ (rs ss : List Rec) (k : Nat) : Int :=
  match rs[k]?, ss[k]? with
  | some r, some s => if r.same s then 0 else 29
  | _, _ => 28
/-- the first index from k on at which two lists differ, among so many. -/
def locG (rs ss : List Rec) : Nat → Nat → Int × Int
  | _, 0 => (-1, 0)
  | k, f + 1 => if differ rs ss k = 0 then locG rs ss (k + 1) f else ((k : Int), differ rs ss k)
def loc (rs ss : List Rec) : Int × Int := locG rs ss 0 (max rs.length ss.length)
abbrev finding (p : Int × Int) : Value := .agg #[.int .i64 p.1, .int .i64 p.2]

theorem size_rec : (Try.prog.info? 27).map (·.size) = some 12 := by kernel_rfl
theorem exec_load_rec (ρ : Operand → Value) (dst : Option Tmp) (x : Operand) (ty : TypeId) (pos : String) (after : Array Edge) (guard : Option (Nat × Bool)) :
    execOp ρ { dst, op := .load 27 x, type := ty, pos, after, guard } = (do pure (.value (← loadRow 27 (ρ x)))) := rfl
attribute [local go_sem ↓] exec_load_rec
theorem load_rec {W : World} {b off : Nat} {cs : Array Value} (h : ∀ j v, cs[j]? = some v → W.cell? ⟨b, off + j, none⟩ = some v) (hn : cs.size = 12) :
    (loadRow 27 (.pointer (some ⟨b, off, none⟩))).run Try.prog W = .ok (.agg cs) W := run_loadRow_at h hn Try.underlying27 size_rec

theorem same_any (cs ds : Array Value) (r s : Rec) (w : World) (hr : IsRec w cs r) (hs : IsRec w ds s) :
    Calls Try.prog 21 #[.agg cs, .agg ds] w fun e w' => e = .returned (.bool (r.same s)) ∧ Below w.heap.size w w' := by
  obtain ⟨A7, c7, A11, c11, rfl, h7, h11, l7, l11⟩ := hr
  obtain ⟨B7, d7, B11, d11, rfl, g7, g11, _, _⟩ := hs
  exact same_core r s A7 c7 A11 c11 B7 d7 B11 d11 w h7 h11 g7 g11 l7 l11


end Go.Proofs.Ythpmngdpgniehaa.Jr
