/-
  The walk of WireNobody: nil writers and readers have nothing. Conditions: the item lies in memory.
-/
import Derived.Test.YteikdmkplbbckaaW8Items
namespace Go.Proofs.Yteikdmkplbbckaa.Wr
open Go.RowKit Go.Proofs.Yteikdmkplbbckaa.Mem Go.Proofs.Yteikdmkplbbckaa.Eqs

section
variable (w : World)
theorem uint_nil (n : Int) : Calls Try.prog 42 #[.pointer none, .int .u64 n] w fun e w' => e = .returned (.tuple #[]) ∧ w = w' := by
  go_enter Try.func42, Try.ntmps42
  go_wp2_with fail
  refine bodyPost_ret (results_none rfl _ _ _) rfl ?_
  exact ⟨rfl, rfl⟩
set_option maxRecDepth 100000 in
theorem wint_nil (x : Int) (hx : I64 x) : Calls Try.prog 43 #[.pointer none, .int .i64 x] w fun e w' => e = .returned (.tuple #[]) ∧ w = w' := by
  have HX := Lib.hid hx
  clear hx
  go_enter Try.func43, Try.ntmps43
  go_wp2_with fail
  refine (zigzag_any x _ HX.out).mono ?_
  rintro e w' ⟨rfl, rfl⟩
  go_wp2_with fail
  refine (uint_nil _ _).mono ?_
  rintro e w' ⟨rfl, rfl⟩
  go_wp2_with fail
  go_end0
  exact ⟨rfl, rfl⟩
theorem wtext_nil (s : ByteArray) : Calls Try.prog 44 #[.pointer none, .string s] w fun e w' => e = .returned (.tuple #[]) ∧ w = w' := by
  go_enter Try.func44, Try.ntmps44
  go_wp2_with fail
  refine bodyPost_ret (results_none rfl _ _ _) rfl ?_
  exact ⟨rfl, rfl⟩
theorem wints_nil (A : Option Addr) (n c : Nat) : Calls Try.prog 45 #[.pointer none, .slice A n c] w fun e w' => e = .returned (.tuple #[]) ∧ w = w' := by
  go_enter Try.func45, Try.ntmps45
  go_wp2_with fail
  refine bodyPost_ret (results_none rfl _ _ _) rfl ?_
  exact ⟨rfl, rfl⟩
theorem wbytes_nil : Calls Try.prog 20 #[.pointer none] w fun e w' => e = .returned (.slice none 0 0) ∧ w = w' := by
  go_enter Try.func20, Try.ntmps20
  go_wp2_with fail
  go_ret
  exact ⟨rfl, rfl⟩
theorem ready_nil : Calls Try.prog 48 #[.pointer none] w fun e w' => e = .returned (.bool false) ∧ w = w' := by
  go_enter Try.func48, Try.ntmps48
  go_wp2_with fail
  go_ret
  exact ⟨rfl, rfl⟩
theorem ruint_nil : Calls Try.prog 26 #[.pointer none] w fun e w' => e = .returned (.int .u64 0) ∧ w = w' := by
  go_enter Try.func26, Try.ntmps26
  go_wp2_with fail
  refine (ready_nil _).mono ?_
  rintro e w' ⟨rfl, rfl⟩
  go_wp2_with fail
  go_ret
  exact ⟨rfl, rfl⟩
theorem rint_nil : Calls Try.prog 24 #[.pointer none] w fun e w' => e = .returned (.int .i64 0) ∧ w = w' := by
  go_enter Try.func24, Try.ntmps24
  go_wp2_with fail
  refine (ruint_nil _).mono ?_
  rintro e w' ⟨rfl, rfl⟩
  go_wp2_with fail
  refine (ready_nil _).mono ?_
  rintro e w' ⟨rfl, rfl⟩
  go_wp2_with fail
  go_ret
  exact ⟨rfl, rfl⟩
set_option maxRecDepth 100000 in
theorem rlen_nil (most : Int) : Calls Try.prog 53 #[.pointer none, .int .i64 most] w fun e w' => e = .returned (.int .u64 0) ∧ w = w' := by
  go_enter Try.func53, Try.ntmps53
  go_wp2_with fail
  refine (ruint_nil _).mono ?_
  rintro e w' ⟨rfl, rfl⟩
  go_wp2_with fail
  refine (ready_nil _).mono ?_
  rintro e w' ⟨rfl, rfl⟩
  go_wp2_with fail
  go_ret
  exact ⟨rfl, rfl⟩
set_option maxRecDepth 100000 in
theorem rtext_nil (most : Int) : Calls Try.prog 28 #[.pointer none, .int .i64 most] w fun e w' => e = .returned (.string ⟨#[]⟩) ∧ w = w' := by
  go_enter Try.func28, Try.ntmps28
  go_wp2_with fail
  refine (rlen_nil _ _).mono ?_
  rintro e w' ⟨rfl, rfl⟩
  go_wp2_with fail
  refine (ready_nil _).mono ?_
  rintro e w' ⟨rfl, rfl⟩
  go_wp2_with fail
  go_ret
  exact ⟨rfl, rfl⟩
set_option maxRecDepth 100000 in
theorem rints_nil (most : Int) : Calls Try.prog 31 #[.pointer none, .int .i64 most] w fun e w' => e = .returned (.slice none 0 0) ∧ w = w' := by
  go_enter Try.func31, Try.ntmps31
  go_wp2_with fail
  refine (rlen_nil _ _).mono ?_
  rintro e w' ⟨rfl, rfl⟩
  go_wp2_with fail
  refine (ready_nil _).mono ?_
  rintro e w' ⟨rfl, rfl⟩
  go_wp2_with fail
  go_ret
  exact ⟨rfl, rfl⟩
theorem rleft_nil : Calls Try.prog 33 #[.pointer none] w fun e w' => e = .returned (.int .i64 0) ∧ w = w' := by
  go_enter Try.func33, Try.ntmps33
  go_wp2_with fail
  refine (ready_nil _).mono ?_
  rintro e w' ⟨rfl, rfl⟩
  go_wp2_with fail
  go_ret
  exact ⟨rfl, rfl⟩
theorem rerr_nil : Calls Try.prog 35 #[.pointer none] w fun e w' => e = .returned (.int .i64 5) ∧ w = w' := by
  go_enter Try.func35, Try.ntmps35
  go_wp2_with fail
  go_ret
  exact ⟨rfl, rfl⟩
end

set_option maxRecDepth 100000 in
set_option maxHeartbeats 2000000 in
theorem write_nil (x : It) (b : Nat) (cs : Array Value) (w : World) (hi : ∃ A2 c2, cs = #[.int .i64 x.kind, .int .i64 x.n, .int .u64 (x.u : Int), .string x.s, .slice A2 x.l.length c2] ∧ I64 x.n) (hc : ∀ j v, cs[j]? = some v → w.cell? ⟨b, j, none⟩ = some v) :
    Calls Try.prog 15 #[.pointer none, .slice (some ⟨b, 0, none⟩) 1 1] w fun e w' => e = .returned (.tuple #[]) ∧ w = w' := by
  obtain ⟨A2, c2, rfl, x1⟩ := hi
  have q0 : w.cell? ⟨b, 0, none⟩ = some (.int .i64 x.kind) := hc 0 _ rfl
  have q1 : w.cell? ⟨b, 1, none⟩ = some (.int .i64 x.n) := hc 1 _ rfl
  have q2 : w.cell? ⟨b, 2, none⟩ = some (.int .u64 (x.u : Int)) := hc 2 _ rfl
  have q3 : w.cell? ⟨b, 3, none⟩ = some (.string x.s) := hc 3 _ rfl
  have q4 : w.cell? ⟨b, 4, none⟩ = some (.slice A2 x.l.length c2) := hc 4 _ rfl
  have X1 := Lib.hid x1
  clear hc x1
  go_enter Try.func15, Try.ntmps15
  go_wp2_with fail
  go_loop [7] (fun i => ∃ k : Nat, k ≤ 1 ∧ i = .int .i64 k) (fun i => 1 - (intOf i).toNat)
  case atStart => exact ⟨0, by omega, rfl⟩
  case round =>
    obtain ⟨k, hk, rfl⟩ := hrel
    by_cases hlt : k < 1
    · obtain rfl : k = 0 := by omega
      by_cases k1 : x.kind = 1
      · have t1 : (x.kind == 1) = true := by simp [k1]
        clear k1
        go_wp2_with fail
        refine (wint_nil _ x.n X1.out).mono ?_
        rintro e w' ⟨rfl, rfl⟩
        go_wp2_with fail
        go_round
        case rel => exact ⟨1, by omega, rfl⟩
        case measure => simp [intOf]
      · have t1 : (x.kind == 1) = false := by simpa using k1
        by_cases k2 : x.kind = 2
        · have t2 : (x.kind == 2) = true := by simp [k2]
          clear k1 k2
          go_wp2_with fail
          refine (uint_nil _ _).mono ?_
          rintro e w' ⟨rfl, rfl⟩
          go_wp2_with fail
          go_round
          case rel => exact ⟨1, by omega, rfl⟩
          case measure => simp [intOf]
        · have t2 : (x.kind == 2) = false := by simpa using k2
          by_cases k3 : x.kind = 3
          · have t3 : (x.kind == 3) = true := by simp [k3]
            clear k1 k2 k3
            go_wp2_with fail
            refine (wtext_nil _ _).mono ?_
            rintro e w' ⟨rfl, rfl⟩
            go_wp2_with fail
            go_round
            case rel => exact ⟨1, by omega, rfl⟩
            case measure => simp [intOf]
          · have t3 : (x.kind == 3) = false := by simpa using k3
            clear k1 k2 k3
            go_wp2_with fail
            refine (wints_nil _ _ _ _).mono ?_
            rintro e w' ⟨rfl, rfl⟩
            go_wp2_with fail
            go_round
            case rel => exact ⟨1, by omega, rfl⟩
            case measure => simp [intOf]
    · obtain rfl : k = 1 := by omega
      go_wp2_with fail
      go_end0
      exact ⟨rfl, rfl⟩
theorem item_size8 : (Try.prog.info? 33).map (·.size) = some 5 := by kernel_rfl
theorem exec_load_item (ρ : Operand → Value) (dst : Option Tmp) (x : Operand) (ty : TypeId) (pos : String) (after : Array Edge) (guard : Option (Nat × Bool)) :
    execOp ρ { dst, op := .load 33 x, type := ty, pos, after, guard } = (do pure (.value (← loadRow 33 (ρ x)))) := rfl
attribute [local go_sem ↓] exec_load_item

set_option maxRecDepth 100000 in
set_option maxHeartbeats 2000000 in
theorem nobody_walk (x : It) (cs : Array Value) (most : Int) (w : World) (hi : IsIt w (· < w.heap.size) cs x) :
    Calls Try.prog 10 #[.agg cs, .int .i64 most] w fun e w' => e = .returned (.bool true) ∧ Below w.heap.size w w' := by
  obtain ⟨A2, c2, rfl, _, _, x1, _⟩ := hi
  have HI := Lib.hid x1
  clear x1
  have l0 := run_loadRow (P := Try.prog) (Blk.new w 33 #[.int .i64 x.kind, .int .i64 x.n, .int .u64 (x.u : Int), .string x.s, .slice A2 x.l.length c2]) Try.underlying33 item_size8
  go_enter Try.func10, Try.ntmps10
  go_wp2_with fail
  clear l0
  obtain ⟨W, hW⟩ : ∃ W, W = (w.alloc (.cells #[.int .i64 x.kind, .int .i64 x.n, .int .u64 (x.u : Int), .string x.s, .slice A2 x.l.length c2] 33)).alloc (.cells #[.int .i64 x.kind, .int .i64 x.n, .int .u64 (x.u : Int), .string x.s, .slice A2 x.l.length c2] 33) := ⟨_, rfl⟩
  have BW : Hid (Below w.heap.size w W) := by rw [hW]; exact ((Below.refl _ _).alloc (Nat.le_refl _) _).alloc (by simp) _
  have KB : Hid (Blk W (w.heap.size + 1) 33 #[.int .i64 x.kind, .int .i64 x.n, .int .u64 (x.u : Int), .string x.s, .slice A2 x.l.length c2]) := by rw [hW]; exact heap_alloc2_new _ _ _
  rw [← hW]
  clear hW
  refine (write_nil x (w.heap.size + 1) _ _ ⟨A2, c2, rfl, HI.out⟩ (fun j v hv => (KB.out.cell j).trans hv)).mono ?_
  rintro e w' ⟨rfl, rfl⟩
  clear HI KB
  go_wp2_with fail
  refine (wbytes_nil _).mono ?_
  rintro e w' ⟨rfl, rfl⟩
  go_wp2_with fail
  refine (rint_nil _).mono ?_
  rintro e w' ⟨rfl, rfl⟩
  go_wp2_with fail
  refine (ruint_nil _).mono ?_
  rintro e w' ⟨rfl, rfl⟩
  go_wp2_with fail
  refine (rtext_nil _ _).mono ?_
  rintro e w' ⟨rfl, rfl⟩
  go_wp2_with fail
  refine (rints_nil _ _).mono ?_
  rintro e w' ⟨rfl, rfl⟩
  go_wp2_with fail
  refine (rleft_nil _).mono ?_
  rintro e w' ⟨rfl, rfl⟩
  go_wp2_with fail
  refine (rerr_nil _).mono ?_
  rintro e w' ⟨rfl, rfl⟩
  go_wp2_with fail
  refine (awake8 _).mono ?_
  rintro e w5 ⟨rfl, b5⟩
  have B5 := Lib.hid (BW.out.trans (b5.mono BW.out.size))
  clear b5
  go_wp2_with fail
  go_ret
  exact ⟨rfl, B5.out⟩
end Go.Proofs.Yteikdmkplbbckaa.Wr
