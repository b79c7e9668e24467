/-
  The walks of the reference's Writer: Varint, Zigzag, Uint, Int, Text, Ints, Bytes, NewWriter. Conditions: the writer's block and its row lie in memory; sizes that a machine holds.
-/
import Derived.Test.YthpmngdpgniehaaWrW2
import Derived.Deep.RegionHeld3
import Derived.Deep.DrawnRows
import Derived.Deep.RegionLaw
namespace Go.Proofs.Ythpmngdpgniehaa.Wr
open Go.RowKit Go.Proofs.Ythpmngdpgniehaa.Mem
attribute [local go_sem ↓] Go.wp_at_zero Go.wp_at_succ

theorem WrPost.from_below {T : TypeId} {p : Nat} {v : Value} {xs : List UInt8} {w w1 : World} {e : Ending} {w' : World} (h : WrPost T p v xs w1 e w') (hb : Below w.heap.size w w1) : WrPost T p v xs w e w' := by
  obtain ⟨he, v', h1, h2⟩ := h
  exact ⟨he, v', h1, ((WrTo.refl p v w).further hb).trans h2⟩
theorem low_byte' (m : Nat) : (m : Int) % 128 + 128 = ((UInt8.ofNat (m % 128 + 128)).toNat : Int) := by
  rw [toNat_small (by omega)]
  omega
/-- what a round of Varint has come to. -/
def VarRel (n m : Nat) (w : World) (v : Value) (wr : World) : Prop :=
  ∃ ys : List UInt8, wr.ownsRow 0 5 1 v ys.length (byts ys) ∧ (∀ j, v.ownBlock = some j → w.heap.size ≤ j) ∧ Below w.heap.size w wr ∧ ys ++ uv m = uv n
theorem own_snoc {w wr w1 : World} {v v1 : Value} {o : Obj} {c : UInt8} {ys : List UInt8} (h2 : ∀ j, v.ownBlock = some j → w.heap.size ≤ j) (h3 : Below w.heap.size w wr)
    (g1 : w1.ownsRow 0 5 1 v1 (ys.length + 1) (byts ys ++ byts [c])) (g2 : (wr.alloc o).grownBy w1 v.ownBlock) (g3 : v1.ownBlock = v.ownBlock ∨ v1.ownBlock = some (wr.alloc o).heap.size) :
    w1.ownsRow 0 5 1 v1 (ys ++ [c]).length (byts (ys ++ [c])) ∧ (∀ j, v1.ownBlock = some j → w.heap.size ≤ j) ∧ Below w.heap.size w w1 := by
  refine ⟨?_, fun j hj => ?_, ?_⟩
  · rw [List.length_append, byts_append]; exact g1
  · rcases g3 with e | e
    · rw [e] at hj; exact h2 j hj
    · rw [e] at hj
      injection hj with hj
      have := h3.size
      simp at hj
      omega
  · exact (h3.alloc h3.size o).grown g2 (by have := h3.size; simp; omega) h2
set_option maxRecDepth 100000 in
set_option maxHeartbeats 2000000 in
theorem varintR_any (n : Nat) (w : World) (hn : N64 n) : Calls Try.prog 82 #[.int .u64 (n : Int)] w (RetBytes (uv n) w) := by
  obtain ⟨i0, hi0, hz0, hz1, hz2⟩ := info_parts u8_info
  have HL := Lib.hid (uv_len64 hn)
  go_enter Try.func82, Try.ntmps82
  go_wp2_with fail
  go_loopw [0, 3] (fun x v wr => ∃ m : Nat, N64 m ∧ x = .int .u64 (m : Int) ∧ Hid (VarRel n m w v wr)) (fun x _ _ => (intOf x).toNat)
  case atStart => exact ⟨n, hn, rfl, ⟨[], World.ownsRow_nil _ _ _ _, (fun j hj => by cases hj), Below.refl _ _, rfl⟩⟩
  case round =>
    obtain ⟨m, hm, rfl, HREL⟩ := hrel
    obtain ⟨ys, hown, hfr, hbel, heq⟩ := HREL.out
    have K2 := Lib.hid hfr
    have K3 := Lib.hid hbel
    have K4 := Lib.hid heq
    have hlen : ys.length + 1 ≤ 10 := by
      have h1 := HL.out
      rw [← heq, List.length_append] at h1
      have := uv_pos m
      omega
    clear hfr hbel heq HREL
    by_cases h : m < 128
    · have HB := Lib.hid (last_byte m h)
      have HE := Lib.hid (uv_last h K4.out)
      go_wp2_with (at_builtin; refine wpList_append_sl _ rfl (.tmp 15) (.tmp 18) 40 rfl 5 i0 (.int .u8 0) 1 1 Try.underlying40 hi0 hz0 hz1 hz2 rfl (by decide) u3 ys.length (byts ys) rfl (hown.alloc _) _ 1 1 (byts [UInt8.ofNat m]) rfl (one_byte _ _ _ _ rfl HB.out) (byts_one _) (by unfold maxLen; omega) (by omega) ?_; intro v2 w2 hown2 hg2 hat2; have G1 := Lib.hid hown2; have G2 := Lib.hid hg2; have G3 := Lib.hid hat2; clear hown2 hg2 hat2)
      go_ret
      have g := own_snoc K2.out K3.out G1.out G2.out G3.out
      rw [HE.out] at g
      exact ⟨_, rfl, g.1, g.2.1, g.2.2⟩
    · have HB := Lib.hid (low_byte' m)
      have hw : IntKind.u64.wrap ((m : Int) / 128) = (m : Int) / 128 := by unfold N64 at hm; rw [IntKind.wrap_u64]; omega
      have HE := Lib.hid (uv_step h K4.out)
      go_wp2_with (at_builtin; refine wpList_append_sl _ rfl (.tmp 6) (.tmp 11) 40 rfl 5 i0 (.int .u8 0) 1 1 Try.underlying40 hi0 hz0 hz1 hz2 rfl (by decide) u3 ys.length (byts ys) rfl (hown.alloc _) _ 1 1 (byts [UInt8.ofNat (m % 128 + 128)]) rfl (one_byte _ _ _ _ rfl HB.out) (byts_one _) (by unfold maxLen; omega) (by omega) ?_; intro v2 w2 hown2 hg2 hat2; have G1 := Lib.hid hown2; have G2 := Lib.hid hg2; have G3 := Lib.hid hat2; clear hown2 hg2 hat2)
      go_roundw
      case rel =>
        have g := own_snoc K2.out K3.out G1.out G2.out G3.out
        exact ⟨m / 128, hm.div, by go_num, ⟨_, g.1, g.2.1, g.2.2, HE.out⟩⟩
      case measure => simp [intOf]; omega

theorem zigR_neg {x : Int} (h : I64 x) (hx : x < 0) : IntKind.u64.wrap (IntKind.u64.wrap (2 * IntKind.u64.wrap (wrap64 (-wrap64 (x + 1)))) + 1) = (zig x : Int) := by
  obtain ⟨h1, h2⟩ := h
  rw [IntWalk.wrap64_in (x + 1) ⟨by omega, by omega⟩, IntWalk.wrap64_in (-(x + 1)) ⟨by omega, by omega⟩, IntKind.wrap_u64, IntKind.wrap_u64, IntKind.wrap_u64, zig, if_pos hx]
  omega
theorem zigR_pos {x : Int} (h : I64 x) (hx : 0 ≤ x) : IntKind.u64.wrap (2 * IntKind.u64.wrap x) = (zig x : Int) := by
  obtain ⟨h1, h2⟩ := h
  rw [IntKind.wrap_u64, IntKind.wrap_u64, zig, if_neg (by omega)]
  omega
set_option maxRecDepth 100000 in
set_option maxHeartbeats 1000000 in
theorem zigzagR_any (x : Int) (w : World) (hx : I64 x) : Calls Try.prog 81 #[.int .i64 x] w fun e w' => e = .returned (.int .u64 (zig x : Int)) ∧ w = w' := by
  have HX := Lib.hid hx
  clear hx
  by_cases h : x < 0
  · go_enter Try.func81, Try.ntmps81
    go_wp2
    go_ret
    exact ⟨ret_int (zigR_neg HX.out h), rfl⟩
  · go_enter Try.func81, Try.ntmps81
    go_wp2
    go_ret
    exact ⟨ret_int (zigR_pos HX.out h), rfl⟩

set_option maxRecDepth 100000 in
set_option maxHeartbeats 2000000 in
theorem uintR_any (p : Nat) (v : Value) (xs : List UInt8) (n : Nat) (w : World) (hw : Wr 97 w p v xs) (hn : N64 n) (hl : Fit (xs.length + 10)) :
    Calls Try.prog 52 #[.pointer (some ⟨p, 0, none⟩), .int .u64 (n : Int)] w (WrPost 97 p v (xs ++ uv n) w) := by
  obtain ⟨i0, hi0, hz0, hz1, hz2⟩ := info_parts u8_info
  have HU := Lib.hid (uv_len64 hn)
  obtain ⟨hb, hown⟩ := hw
  have HA := Lib.hid (own_apart hown hb (by decide))
  obtain ⟨A0, c0, rfl, hs0⟩ := own_form hown
  have hc : w.cell? ⟨p, 0, none⟩ = some (.slice A0 xs.length c0) := hb.cell 0
  have HB := Lib.hid hb
  have HO := Lib.hid hown
  have HNN := Lib.hid hn
  clear hb hown hs0 hn
  go_enter Try.func52, Try.ntmps52
  go_wp2_with fail
  go_region_law (first
      | (refine step_append_sl _ (by rfl) (.tmp 8) (.tmp 10) 40 (by rfl) 5 i0 (.int .u8 0) 1 1 Try.underlying40 hi0 hz0 hz1 hz2 rfl (by decide) (.slice A0 xs.length c0) xs.length (byts xs) (by rfl) (own_frm HO.out (Frm.of_below (F := fun _ => False) ((Below.refl _ w).drew.trans b1) (fun i hi hg => absurd hg (by simp; omega))) (fun _ _ g => g)) A1 (uv n).length c1 (byts (uv n)) (by rfl) s1 (byts_one _) (by have := HU.out; have := hl.le; unfold maxLen; omega) (by have := HU.out; have := hl.le; omega) ?_; intro v2 w2 hown2 hg2 hat2; obtain ⟨A2, c2, rfl, s2⟩ := own_form hown2; have k2 : w2.cell? ⟨p, 0, none⟩ = some (.slice A0 xs.length c0) := (((HB.out.drew.below b1 HB.out.lt).grown hg2 HA.out)).cell 0; have f2 := (((HB.out.drew.below b1 HB.out.lt).grown hg2 HA.out)).frozen 0)
      | (go_simp; go_at_call 82; refine (varintR_any n _ HNN.out).mono ?_; rintro e w1 ⟨v1, rfl, o1, fr1, b1⟩; obtain ⟨A1, c1, rfl, s1⟩ := own_form o1; have k1 : w1.cell? ⟨p, 0, none⟩ = some (.slice A0 xs.length c0) := (HB.out.drew.below b1 HB.out.lt).cell 0))
  all_goals (go_end0; exact (put_end rfl hown2 hg2 hat2 ((HB.out.drew.below b1 HB.out.lt).grown hg2 HA.out) (by decide)).from_below ((Below.refl _ w).drew.trans b1))
end Go.Proofs.Ythpmngdpgniehaa.Wr
