/-
  The walks of the journal's Len, Hash, Record and Append. Conditions: the object lies in memory; the record lies in memory, apart from the object.
-/
import Derived.Test.YthpmngdpgniehaaJrObj
import Derived.Test.YthpmngdpgniehaaJrLaw
import Derived.Test.YthpmngdpgniehaaJrEncW
import Derived.Test.YthpmngdpgniehaaDgWalks
import Derived.Deep.RegionLaw
namespace Go.Proofs.Ythpmngdpgniehaa.Jr
open Go.RowKit Go.Proofs.Ythpmngdpgniehaa.Mem Go.Proofs.Ythpmngdpgniehaa.Wr Go.Proofs.Ythpmngdpgniehaa.Opn
attribute [local go_sem ↓] exec_load_rec exec_store_rec

set_option maxRecDepth 100000 in
theorem len_any (F : Nat → Prop) (g : Nat) (v : Value) (rs : List Rec) (h : Int) (w : World) (hj : Jo F w g v rs h) :
    Calls Try.prog 16 #[.pointer (some ⟨g, 0, none⟩)] w fun e w' => e = .returned (.int .i64 (rs.length : Int)) ∧ w = w' := by
  obtain ⟨A, c, hv, _, _⟩ := hj.2.2.2.form
  subst hv
  have q0 : w.cell? ⟨g, 0, none⟩ = some (.slice A rs.length c) := hj.1.cell 0
  clear hj
  go_enter Try.func16, Try.ntmps16
  go_wp2_with fail
  go_ret
  exact ⟨rfl, rfl⟩
set_option maxRecDepth 100000 in
theorem jhash_any (F : Nat → Prop) (g : Nat) (v : Value) (rs : List Rec) (h : Int) (w : World) (hj : Jo F w g v rs h) :
    Calls Try.prog 17 #[.pointer (some ⟨g, 0, none⟩)] w fun e w' => e = .returned (.int .u64 h) ∧ w = w' := by
  have q1 : w.cell? ⟨g, 1, none⟩ = some (.int .u64 h) := hj.1.cell 1
  clear hj
  go_enter Try.func17, Try.ntmps17
  go_wp2_with fail
  go_ret
  exact ⟨rfl, rfl⟩

/-! ### Record -/
def RecPost (r : Rec) (err : Int) (w : World) (e : Ending) (w' : World) : Prop := ∃ cs, e = .returned (.tuple #[.agg cs, .int .i64 err]) ∧ IsRec w' cs r ∧ Below w.heap.size w w'
abbrev zeroRec : Array Value := #[.int .i64 0, .int .i64 0, .int .i64 0, .int .i64 0, .int .i64 0, .string ⟨#[]⟩, .string ⟨#[]⟩, .slice none 0 0, .int .u64 0, .int .u64 0, .string ⟨#[]⟩, .slice none 0 0]
set_option maxRecDepth 100000 in
set_option maxHeartbeats 2000000 in
theorem record_out (F : Nat → Prop) (g : Nat) (v : Value) (rs : List Rec) (h : Int) (i : Int) (w : World) (hj : Jo F w g v rs h) (hi : i < 0 ∨ (rs.length : Int) ≤ i) :
    Calls Try.prog 14 #[.pointer (some ⟨g, 0, none⟩), .int .i64 i] w (RecPost none_ 2 w) := by
  obtain ⟨A, c, hv, _, _⟩ := hj.2.2.2.form
  subst hv
  obtain ⟨W0, hW0⟩ : ∃ W0, W0 = w.alloc (.cells #[.int .i64 0, .int .i64 0, .int .i64 0, .int .i64 0, .int .i64 0, .string ⟨#[]⟩, .string ⟨#[]⟩, .slice none 0 0, .int .u64 0, .int .u64 0, .string ⟨#[]⟩, .slice none 0 0] 27) := ⟨_, rfl⟩
  have KZ : Hid (Blk W0 w.heap.size 27 #[.int .i64 0, .int .i64 0, .int .i64 0, .int .i64 0, .int .i64 0, .string ⟨#[]⟩, .string ⟨#[]⟩, .slice none 0 0, .int .u64 0, .int .u64 0, .string ⟨#[]⟩, .slice none 0 0]) := by rw [hW0]; exact Blk.new _ _ _
  have BE : Hid (Below w.heap.size w W0) := by rw [hW0]; exact (Below.refl _ w).alloc (Nat.le_refl _) _
  have q0 : (w.alloc (.cells #[.int .i64 0, .int .i64 0, .int .i64 0, .int .i64 0, .int .i64 0, .string ⟨#[]⟩, .string ⟨#[]⟩, .slice none 0 0, .int .u64 0, .int .u64 0, .string ⟨#[]⟩, .slice none 0 0] 27)).cell? ⟨g, 0, none⟩ = some (.slice A rs.length c) := (hj.1.alloc _).cell 0
  have st := store_rec (cs := #[.int .i64 0, .int .i64 0, .int .i64 0, .int .i64 0, .int .i64 0, .string ⟨#[]⟩, .string ⟨#[]⟩, .slice none 0 0, .int .u64 0, .int .u64 0, .string ⟨#[]⟩, .slice none 0 0]) KZ.out rfl rfl rfl
  have BL := Lib.hid (Blk_setRow KZ.out #[.int .i64 0, .int .i64 0, .int .i64 0, .int .i64 0, .int .i64 0, .string ⟨#[]⟩, .string ⟨#[]⟩, .slice none 0 0, .int .u64 0, .int .u64 0, .string ⟨#[]⟩, .slice none 0 0])
  rw [hW0] at st
  have HW := Lib.hid hW0
  clear hj hW0
  by_cases h0 : i < 0
  · clear hi
    go_enter Try.func14, Try.ntmps14
    go_wp2_with fail
    rw [← HW.out]
    exact ret_rec2 Try.results14 rfl rfl BL.out rfl ⟨_, rfl, is_none _, BE.out.trans ((frm_setRow _ _ _).below BE.out.size (fun i hi e => by omega))⟩
  · have h1 : (rs.length : Int) ≤ i := by omega
    have t0 : decide (i < 0) = false := by simpa using h0
    clear hi
    go_enter Try.func14, Try.ntmps14
    go_wp2_with fail
    rw [← HW.out]
    exact ret_rec2 Try.results14 rfl rfl BL.out rfl ⟨_, rfl, is_none _, BE.out.trans ((frm_setRow _ _ _).below BE.out.size (fun i hi e => by omega))⟩
set_option maxRecDepth 100000 in
set_option maxHeartbeats 4000000 in
theorem record_in (F : Nat → Prop) (g : Nat) (v : Value) (rs : List Rec) (h : Int) (k : Nat) (r : Rec) (w : World) (hj : Jo F w g v rs h) (hk : rs[k]? = some r) (hw : Within r) :
    Calls Try.prog 14 #[.pointer (some ⟨g, 0, none⟩), .int .i64 (k : Int)] w (RecPost r 0 w) := by
  obtain ⟨A, c, hv, hs, _⟩ := hj.2.2.2.form
  subst hv
  have hlt := (List.getElem?_eq_some_iff.1 hk).1
  obtain ⟨b, off, cs, rfl, _, hi, hcell⟩ := hs k r hk
  obtain ⟨W0, hW0⟩ : ∃ W0, W0 = w.alloc (.cells #[.int .i64 0, .int .i64 0, .int .i64 0, .int .i64 0, .int .i64 0, .string ⟨#[]⟩, .string ⟨#[]⟩, .slice none 0 0, .int .u64 0, .int .u64 0, .string ⟨#[]⟩, .slice none 0 0] 27) := ⟨_, rfl⟩
  have KZ : Hid (Blk W0 w.heap.size 27 #[.int .i64 0, .int .i64 0, .int .i64 0, .int .i64 0, .int .i64 0, .string ⟨#[]⟩, .string ⟨#[]⟩, .slice none 0 0, .int .u64 0, .int .u64 0, .string ⟨#[]⟩, .slice none 0 0]) := by rw [hW0]; exact Blk.new _ _ _
  have BE : Hid (Below w.heap.size w W0) := by rw [hW0]; exact (Below.refl _ w).alloc (Nat.le_refl _) _
  have q0 : (w.alloc (.cells #[.int .i64 0, .int .i64 0, .int .i64 0, .int .i64 0, .int .i64 0, .string ⟨#[]⟩, .string ⟨#[]⟩, .slice none 0 0, .int .u64 0, .int .u64 0, .string ⟨#[]⟩, .slice none 0 0] 27)).cell? ⟨g, 0, none⟩ = some (.slice (some ⟨b, off, none⟩) rs.length c) := (hj.1.alloc _).cell 0
  have HI : Hid (IsRec W0 cs r) := hi.below BE.out (Nat.le_refl _)
  have ld : (loadRow 27 (.pointer (some ⟨b, off + k * 12, none⟩))).run Try.prog W0 = .ok (.agg cs) W0 := load_rec (fun j u hu => (BE.out.cell (World.block_lt_of_cell? w _ (hcell j u hu))).trans (hcell j u hu)) (rec_size hi)
  rw [hW0] at ld
  have HN := Lib.hid (Nat.le_trans hw.nums (by decide : 256 ≤ 5000))
  have HA := Lib.hid (Nat.le_trans hw.amts (by decide : 256 ≤ 5000))
  have hlti : (k : Int) < (rs.length : Int) := by omega
  have h0i : (0 : Int) ≤ (k : Int) := by omega
  have t1 : decide (rs.length ≤ k) = false := by simp; omega
  have HW := Lib.hid hW0
  clear hj hW0 hs hi hcell hk hw hlt
  go_enter Try.func14, Try.ntmps14
  go_wp2_with fail
  rw [← HW.out]
  clear HW
  refine (clone_any r cs _ HI.out HN.out HA.out).mono ?_
  rintro e w1 ⟨ds, rfl, id, b1, ls⟩
  have KZ1 := Lib.hid (KZ.out.below b1 KZ.out.lt)
  have st := store_rec (cs := ds) KZ1.out rfl (rec_size id) (rec_one id)
  have BL := Lib.hid (Blk_setRow KZ1.out ds)
  have EI : Hid (IsRec (w1.setRow w.heap.size ds) ds r) := Lib.hid (rec_frm id (frm_setRow _ _ _) ls fun i hi e => by have := KZ.out.lt; omega)
  have EB : Hid (Below w.heap.size w (w1.setRow w.heap.size ds)) := Lib.hid (BE.out.trans ((b1.mono BE.out.size).trans ((frm_setRow _ _ _).below (Nat.le_trans BE.out.size b1.size) (fun i hi e => by omega))))
  have ES := Lib.hid (rec_size id)
  clear id b1 ls q0 ld
  go_wp2_with fail
  exact ret_rec2 Try.results14 rfl rfl BL.out ES.out ⟨_, rfl, EI.out, EB.out⟩
/-- a record by its index, or none. -/
def recAt (rs : List Rec) (i : Int) : Rec × Int := if 0 ≤ i then (match rs[i.toNat]? with | some r => (r, 0) | none => (none_, 2)) else (none_, 2)
theorem record_any (F : Nat → Prop) (g : Nat) (v : Value) (rs : List Rec) (h : Int) (i : Int) (w : World) (hj : Jo F w g v rs h) (hw : ∀ r ∈ rs, Good r) :
    Calls Try.prog 14 #[.pointer (some ⟨g, 0, none⟩), .int .i64 i] w (RecPost (recAt rs i).1 (recAt rs i).2 w) := by
  unfold recAt
  by_cases h0 : 0 ≤ i
  · rw [if_pos h0]
    cases hk : rs[i.toNat]? with
    | none => exact record_out F g v rs h i w hj (.inr (by have := List.getElem?_eq_none_iff.1 hk; omega))
    | some r =>
      have := record_in F g v rs h i.toNat r w hj hk (hw r (List.mem_of_getElem? hk)).2
      rw [Int.toNat_of_nonneg h0] at this
      exact this
  · rw [if_neg h0]
    exact record_out F g v rs h i w hj (.inl (by omega))
end Go.Proofs.Ythpmngdpgniehaa.Jr
