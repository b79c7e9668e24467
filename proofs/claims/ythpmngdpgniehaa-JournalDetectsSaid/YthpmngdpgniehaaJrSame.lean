/-
  Records of the journal as values, and the walk of journal.Same and of its reference: it says whether all fields are equal. Conditions: the records lie in memory, their lists of a length that an int holds.
-/
import Derived.Test.YthpmngdpgniehaaEqs
import Derived.Deep.DeepCutAuto
import Derived.RegionTactic
import Derived.BigRegion
namespace Go.Proofs.Ythpmngdpgniehaa.Jr
open Go.RowKit Go.Proofs.Ythpmngdpgniehaa.Mem Go.Proofs.Ythpmngdpgniehaa.Eqs

/-- a record: the command's numbers, texts and list, the ticket and the amounts. -/
structure Rec where
  k0 : Int
  k1 : Int
  k2 : Int
  k3 : Int
  k4 : Int
  name : ByteArray
  text : ByteArray
  nums : List Int
  key : Int
  nonce : Int
  ticket : ByteArray
  amts : List Int
def Rec.same (r s : Rec) : Bool := (r.k0 == s.k0) && (r.k1 == s.k1) && (r.k2 == s.k2) && (r.k3 == s.k3) && (r.k4 == s.k4) && (r.name.toList == s.name.toList) && (r.text.toList == s.text.toList) && decide (r.nums = s.nums) && (r.key == s.key) && (r.nonce == s.nonce) && (r.ticket.toList == s.ticket.toList) && decide (r.amts = s.amts)
abbrev recCells (r : Rec) (A7 : Option Addr) (Ac7 : Nat) (A11 : Option Addr) (Ac11 : Nat) : Array Value := #[.int .i64 r.k0, .int .i64 r.k1, .int .i64 r.k2, .int .i64 r.k3, .int .i64 r.k4, .string r.name, .string r.text, .slice A7 r.nums.length Ac7, .int .u64 r.key, .int .u64 r.nonce, .string r.ticket, .slice A11 r.amts.length Ac11]
/-- the cells cs are the record r. -/
def IsRec (w : World) (cs : Array Value) (r : Rec) : Prop :=
  ∃ A7 c7 A11 c11, cs = recCells r A7 c7 A11 c11 ∧ Sl w 1 A7 r.nums.length (ints r.nums) ∧ Sl w 1 A11 r.amts.length (ints r.amts) ∧ r.nums.length ≤ 9223372036854775807 ∧ r.amts.length ≤ 9223372036854775807
theorem IsRec.keep {w w' : World} {cs : Array Value} {r : Rec} (h : IsRec w cs r) (hk : ∀ p : Addr, p.block < w.heap.size → w'.cell? p = w.cell? p) : IsRec w' cs r := by
  obtain ⟨A7, c7, A11, c11, e, h7, h11, l7, l11⟩ := h
  exact ⟨A7, c7, A11, c11, e, h7.keep hk, h11.keep hk, l7, l11⟩
theorem IsRec.below {w w' : World} {B : Nat} {cs : Array Value} {r : Rec} (h : IsRec w cs r) (hb : Below B w w') (hB : w.heap.size ≤ B) : IsRec w' cs r := h.keep fun _ hp => hb.cell (Nat.lt_of_lt_of_le hp hB)

theorem Blk.at (w : World) (t : TypeId) (cs : Array Value) {g : Nat} (hg : g = w.heap.size) : Blk (w.alloc (.cells cs t)) g t cs := by
  rw [hg]
  exact Blk.new w t cs

set_option maxRecDepth 100000 in
set_option maxHeartbeats 8000000 in
theorem same_core (r s : Rec) (A7 : Option Addr) (Ac7 : Nat) (A11 : Option Addr) (Ac11 : Nat) (B7 : Option Addr) (Bc7 : Nat) (B11 : Option Addr) (Bc11 : Nat) (w : World)
    (ha7 : Sl w 1 A7 r.nums.length (ints r.nums)) (ha11 : Sl w 1 A11 r.amts.length (ints r.amts)) (hb7 : Sl w 1 B7 s.nums.length (ints s.nums)) (hb11 : Sl w 1 B11 s.amts.length (ints s.amts))
    (l7 : r.nums.length ≤ 9223372036854775807) (l11 : r.amts.length ≤ 9223372036854775807) :
    Calls Try.prog 21 #[.agg #[.int .i64 r.k0, .int .i64 r.k1, .int .i64 r.k2, .int .i64 r.k3, .int .i64 r.k4, .string r.name, .string r.text, .slice A7 r.nums.length Ac7, .int .u64 r.key, .int .u64 r.nonce, .string r.ticket, .slice A11 r.amts.length Ac11], .agg #[.int .i64 s.k0, .int .i64 s.k1, .int .i64 s.k2, .int .i64 s.k3, .int .i64 s.k4, .string s.name, .string s.text, .slice B7 s.nums.length Bc7, .int .u64 s.key, .int .u64 s.nonce, .string s.ticket, .slice B11 s.amts.length Bc11]] w fun e w' => e = .returned (.bool (r.same s)) ∧ Below w.heap.size w w' := by
  have HA7 := Lib.hid ha7
  have HA11 := Lib.hid ha11
  have HB7 := Lib.hid hb7
  have HB11 := Lib.hid hb11
  have L7 := Lib.hid l7
  have L11 := Lib.hid l11
  clear ha7 ha11 hb7 hb11 l7 l11
  go_enter Try.func21, Try.ntmps21
  go_wp2_with fail
  go_cut [5, 6] (fun s5 s6 wc => ∃ g5 g6 : Nat, s5 = .pointer (some ⟨g5, 0, none⟩) ∧ s6 = .pointer (some ⟨g6, 0, none⟩) ∧ Blk wc g5 25 #[.int .i64 r.k0, .int .i64 r.k1, .int .i64 r.k2, .int .i64 r.k3, .int .i64 r.k4, .string r.name, .string r.text, .slice A7 r.nums.length Ac7, .int .u64 r.key, .int .u64 r.nonce] ∧ Blk wc g6 25 #[.int .i64 s.k0, .int .i64 s.k1, .int .i64 s.k2, .int .i64 s.k3, .int .i64 s.k4, .string s.name, .string s.text, .slice B7 s.nums.length Bc7, .int .u64 s.key, .int .u64 s.nonce] ∧
      Blk wc w.heap.size 27 #[.int .i64 r.k0, .int .i64 r.k1, .int .i64 r.k2, .int .i64 r.k3, .int .i64 r.k4, .string r.name, .string r.text, .slice A7 r.nums.length Ac7, .int .u64 r.key, .int .u64 r.nonce, .string r.ticket, .slice A11 r.amts.length Ac11] ∧ Blk wc (w.heap.size + 1) 27 #[.int .i64 s.k0, .int .i64 s.k1, .int .i64 s.k2, .int .i64 s.k3, .int .i64 s.k4, .string s.name, .string s.text, .slice B7 s.nums.length Bc7, .int .u64 s.key, .int .u64 s.nonce, .string s.ticket, .slice B11 s.amts.length Bc11] ∧ Below w.heap.size w wc)
  case first =>
    go_region
    all_goals (go_wp2_with fail; go_meet)
    · exact ⟨_, _, rfl, rfl, ((Blk.at _ _ _ (by simp)).alloc _).drew, (Blk.at _ _ _ (by simp)).drew, ((((Blk.at _ _ _ rfl).alloc _).alloc _).alloc _).drew, (((Blk.at _ _ _ (by simp)).alloc _).alloc _).drew, ((((Below.refl _ _).alloc (Nat.le_refl _) _).alloc (by simp) _).alloc (by simp; omega) _ |>.alloc (by simp; omega) _).drew⟩
    · exact ⟨_, _, rfl, rfl, (Blk.at _ _ _ (by simp)).drew, ((Blk.at _ _ _ (by simp)).alloc _).drew, ((((Blk.at _ _ _ rfl).alloc _).alloc _).alloc _).drew, (((Blk.at _ _ _ (by simp)).alloc _).alloc _).drew, ((((Below.refl _ _).alloc (Nat.le_refl _) _).alloc (by simp) _).alloc (by simp; omega) _ |>.alloc (by simp; omega) _).drew⟩
  case rest =>
    obtain ⟨g5, g6, rfl, rfl, k5, k6, kN, kM, hbel⟩ := hcut
    have x0 : wc.cell? ⟨g5, 0, none⟩ = some (.int .i64 r.k0) := k5.cell 0
    have x1 : wc.cell? ⟨g5, 1, none⟩ = some (.int .i64 r.k1) := k5.cell 1
    have x2 : wc.cell? ⟨g5, 2, none⟩ = some (.int .i64 r.k2) := k5.cell 2
    have x3 : wc.cell? ⟨g5, 3, none⟩ = some (.int .i64 r.k3) := k5.cell 3
    have x4 : wc.cell? ⟨g5, 4, none⟩ = some (.int .i64 r.k4) := k5.cell 4
    have x5 : wc.cell? ⟨g5, 5, none⟩ = some (.string r.name) := k5.cell 5
    have x6 : wc.cell? ⟨g5, 6, none⟩ = some (.string r.text) := k5.cell 6
    have x7 : wc.cell? ⟨g5, 7, none⟩ = some (.slice A7 r.nums.length Ac7) := k5.cell 7
    have x8 : wc.cell? ⟨g5, 8, none⟩ = some (.int .u64 r.key) := k5.cell 8
    have x9 : wc.cell? ⟨g5, 9, none⟩ = some (.int .u64 r.nonce) := k5.cell 9
    have y0 : wc.cell? ⟨g6, 0, none⟩ = some (.int .i64 s.k0) := k6.cell 0
    have y1 : wc.cell? ⟨g6, 1, none⟩ = some (.int .i64 s.k1) := k6.cell 1
    have y2 : wc.cell? ⟨g6, 2, none⟩ = some (.int .i64 s.k2) := k6.cell 2
    have y3 : wc.cell? ⟨g6, 3, none⟩ = some (.int .i64 s.k3) := k6.cell 3
    have y4 : wc.cell? ⟨g6, 4, none⟩ = some (.int .i64 s.k4) := k6.cell 4
    have y5 : wc.cell? ⟨g6, 5, none⟩ = some (.string s.name) := k6.cell 5
    have y6 : wc.cell? ⟨g6, 6, none⟩ = some (.string s.text) := k6.cell 6
    have y7 : wc.cell? ⟨g6, 7, none⟩ = some (.slice B7 s.nums.length Bc7) := k6.cell 7
    have y8 : wc.cell? ⟨g6, 8, none⟩ = some (.int .u64 s.key) := k6.cell 8
    have y9 : wc.cell? ⟨g6, 9, none⟩ = some (.int .u64 s.nonce) := k6.cell 9
    have x10 : wc.cell? ⟨w.heap.size, 10, none⟩ = some (.string r.ticket) := kN.cell 10
    have x11 : wc.cell? ⟨w.heap.size, 11, none⟩ = some (.slice A11 r.amts.length Ac11) := kN.cell 11
    have y10 : wc.cell? ⟨w.heap.size + 1, 10, none⟩ = some (.string s.ticket) := kM.cell 10
    have y11 : wc.cell? ⟨w.heap.size + 1, 11, none⟩ = some (.slice B11 s.amts.length Bc11) := kM.cell 11
    have C7 : Hid (∀ q, Calls Try.prog 54 #[.slice A7 r.nums.length Ac7, .slice B7 s.nums.length Bc7] (wc.drewN q) fun e w' => e = .returned (.bool (decide (r.nums = s.nums))) ∧ ∃ q', w' = wc.drewN q') := fun q =>
      (slicesEq r.nums s.nums _ _ _ _ _ _ _ ((HA7.out.below hbel (Nat.le_refl _)).drewN q) ((HB7.out.below hbel (Nat.le_refl _)).drewN q) L7.out).mono fun e w' ⟨he, m, hm⟩ => ⟨he, q + m, by rw [hm, World.drewN_drewN]⟩
    have C11 : Hid (∀ q, Calls Try.prog 54 #[.slice A11 r.amts.length Ac11, .slice B11 s.amts.length Bc11] (wc.drewN q) fun e w' => e = .returned (.bool (decide (r.amts = s.amts))) ∧ ∃ q', w' = wc.drewN q') := fun q =>
      (slicesEq r.amts s.amts _ _ _ _ _ _ _ ((HA11.out.below hbel (Nat.le_refl _)).drewN q) ((HB11.out.below hbel (Nat.le_refl _)).drewN q) L11.out).mono fun e w' ⟨he, m, hm⟩ => ⟨he, q + m, by rw [hm, World.drewN_drewN]⟩
    have HBl := Lib.hid hbel
    clear k5 k6 kN kM hbel HA7 HA11 HB7 HB11 L7 L11
    generalize (Value.agg #[.int .i64 r.k0, .int .i64 r.k1, .int .i64 r.k2, .int .i64 r.k3, .int .i64 r.k4, .string r.name, .string r.text, .slice A7 r.nums.length Ac7, .int .u64 r.key, .int .u64 r.nonce, .string r.ticket, .slice A11 r.amts.length Ac11]) = X
    generalize (Value.agg #[.int .i64 s.k0, .int .i64 s.k1, .int .i64 s.k2, .int .i64 s.k3, .int .i64 s.k4, .string s.name, .string s.text, .slice B7 s.nums.length Bc7, .int .u64 s.key, .int .u64 s.nonce, .string s.ticket, .slice B11 s.amts.length Bc11]) = Y
    cases e0 : (r.k0 == s.k0) with
    | false =>
      go_wp2_with fail
      go_ret
      exact ⟨ret_bool (by simp [Rec.same, e0]), below_drewN HBl.out 0⟩
    | true =>
      cases e1 : (r.k1 == s.k1) with
      | false =>
        go_wp2_with fail
        go_ret
        exact ⟨ret_bool (by simp [Rec.same, e0, e1]), below_drewN HBl.out 0⟩
      | true =>
        cases e2 : (r.k2 == s.k2) with
        | false =>
          go_wp2_with fail
          go_ret
          exact ⟨ret_bool (by simp [Rec.same, e0, e1, e2]), below_drewN HBl.out 0⟩
        | true =>
          cases e3 : (r.k3 == s.k3) with
          | false =>
            go_wp2_with fail
            go_ret
            exact ⟨ret_bool (by simp [Rec.same, e0, e1, e2, e3]), below_drewN HBl.out 0⟩
          | true =>
            cases e4 : (r.k4 == s.k4) with
            | false =>
              go_wp2_with fail
              go_ret
              exact ⟨ret_bool (by simp [Rec.same, e0, e1, e2, e3, e4]), below_drewN HBl.out 0⟩
            | true =>
              cases e5 : (r.name.toList == s.name.toList) with
              | false =>
                go_wp2_with fail
                go_ret
                exact ⟨ret_bool (by simp [Rec.same, e0, e1, e2, e3, e4, e5]), below_drewN HBl.out 0⟩
              | true =>
                cases e6 : (r.text.toList == s.text.toList) with
                | false =>
                  go_wp2_with fail
                  go_ret
                  exact ⟨ret_bool (by simp [Rec.same, e0, e1, e2, e3, e4, e5, e6]), below_drewN HBl.out 0⟩
                | true =>
                  cases e7 : (decide (r.nums = s.nums)) with
                  | false =>
                    go_wp2_with fail
                    refine (C7.out 0).mono ?_
                    rintro e w7 ⟨rfl, q7, rfl⟩
                    go_wp2_with fail
                    go_ret
                    exact ⟨ret_bool (by simp [Rec.same, e0, e1, e2, e3, e4, e5, e6, e7]), below_drewN HBl.out q7⟩
                  | true =>
                    cases e8 : (r.key == s.key) with
                    | false =>
                      go_wp2_with fail
                      refine (C7.out 0).mono ?_
                      rintro e w7 ⟨rfl, q7, rfl⟩
                      go_wp2_with fail
                      go_ret
                      exact ⟨ret_bool (by simp [Rec.same, e0, e1, e2, e3, e4, e5, e6, e7, e8]), below_drewN HBl.out q7⟩
                    | true =>
                      cases e9 : (r.nonce == s.nonce) with
                      | false =>
                        go_wp2_with fail
                        refine (C7.out 0).mono ?_
                        rintro e w7 ⟨rfl, q7, rfl⟩
                        go_wp2_with fail
                        go_ret
                        exact ⟨ret_bool (by simp [Rec.same, e0, e1, e2, e3, e4, e5, e6, e7, e8, e9]), below_drewN HBl.out q7⟩
                      | true =>
                        cases e10 : (r.ticket.toList == s.ticket.toList) with
                        | false =>
                          go_wp2_with fail
                          refine (C7.out 0).mono ?_
                          rintro e w7 ⟨rfl, q7, rfl⟩
                          go_wp2_with fail
                          go_ret
                          exact ⟨ret_bool (by simp [Rec.same, e0, e1, e2, e3, e4, e5, e6, e7, e8, e9, e10]), below_drewN HBl.out q7⟩
                        | true =>
                          cases e11 : (decide (r.amts = s.amts)) with
                          | false =>
                            go_wp2_with fail
                            refine (C7.out 0).mono ?_
                            rintro e w7 ⟨rfl, q7, rfl⟩
                            go_wp2_with fail
                            refine (C11.out q7).mono ?_
                            rintro e w11 ⟨rfl, q11, rfl⟩
                            go_wp2_with fail
                            go_ret
                            exact ⟨ret_bool (by simp [Rec.same, e0, e1, e2, e3, e4, e5, e6, e7, e8, e9, e10, e11]), below_drewN HBl.out q11⟩
                          | true =>
                            go_wp2_with fail
                            refine (C7.out 0).mono ?_
                            rintro e w7 ⟨rfl, q7, rfl⟩
                            go_wp2_with fail
                            refine (C11.out q7).mono ?_
                            rintro e w11 ⟨rfl, q11, rfl⟩
                            go_wp2_with fail
                            go_ret
                            exact ⟨ret_bool (by simp [Rec.same, e0, e1, e2, e3, e4, e5, e6, e7, e8, e9, e10, e11]), below_drewN HBl.out q11⟩
end Go.Proofs.Ythpmngdpgniehaa.Jr
