/-
  The walks of wire's Writer: put, Uint, Int, Text, Ints, Bytes. Conditions: the writer's block and its row lie in memory; sizes that a machine holds.
-/
import Derived.Test.YthpmngdpgniehaaProg
import Derived.Test.YthpmngdpgniehaaApp
import Derived.Test.YthpmngdpgniehaaWrPlain
import Derived.Deep.QuietTactic
import Derived.BigQuiet
namespace Go.Proofs.Ythpmngdpgniehaa.Wr
open Go.RowKit Go.Proofs.Ythpmngdpgniehaa.Mem

/-- a number of 64 bits (the bound is kept behind a word). -/
def N64 (n : Nat) : Prop := n < 18446744073709551616
theorem N64.div {n k : Nat} (h : N64 n) : N64 (n / k) := Nat.lt_of_le_of_lt (Nat.div_le_self n k) h
/-- a length that fits (the bound is kept behind a word). -/
def Fit (n : Nat) : Prop := n ≤ 100000000000
theorem Fit.le {n : Nat} (h : Fit n) : n ≤ 100000000000 := h
theorem Fit.of {n m : Nat} (h : Fit n) (hm : m ≤ n) : Fit m := Nat.le_trans hm h
/-- the blocks of a writer: its own, and its row's. -/
def own (p : Nat) (v : Value) (k : Nat) : Prop := k = p ∨ v.ownBlock = some k
/-- block p is a writer (a struct of type T) that has written xs. -/
def Wr (T : TypeId) (w : World) (p : Nat) (v : Value) (xs : List UInt8) : Prop := Blk w p T #[v] ∧ w.ownsRow 0 5 1 v xs.length (byts xs)
/-- a call on a writer: what it wrote, and where. -/
def WrTo (p : Nat) (v v' : Value) (w w' : World) : Prop := Frm (own p v) w w' ∧ ∀ k, v'.ownBlock = some k → v.ownBlock = some k ∨ w.heap.size ≤ k
def WrPost (T : TypeId) (p : Nat) (v : Value) (xs : List UInt8) (w : World) (e : Ending) (w' : World) : Prop :=
  e = .returned (.tuple #[]) ∧ ∃ v', Wr T w' p v' xs ∧ WrTo p v v' w w'
theorem WrTo.refl (p : Nat) (v : Value) (w : World) : WrTo p v v w w := ⟨Frm.refl _ _, fun _ h => .inl h⟩
theorem WrTo.trans {p : Nat} {v v' v'' : Value} {w w' w'' : World} (h : WrTo p v v' w w') (k : WrTo p v' v'' w' w'') : WrTo p v v'' w w'' := by
  refine ⟨h.1.trans k.1 (fun i hi g => ?_), fun i hi => ?_⟩
  · rcases g with rfl | g
    · exact .inl rfl
    · rcases h.2 i g with g | g
      · exact .inr g
      · omega
  · rcases k.2 i hi with g | g
    · exact h.2 i g
    · exact .inr (Nat.le_trans h.1.size g)
theorem Wr.keep {T : TypeId} {w w' : World} {p : Nat} {v : Value} {xs : List UInt8} {F : Nat → Prop} (h : Wr T w p v xs) (hf : Frm F w w') (hn : ∀ k, own p v k → ¬ F k) : Wr T w' p v xs :=
  ⟨h.1.frm hf (hn p (.inl rfl)), own_frm h.2 hf fun k hk => hn k (.inr hk)⟩
theorem Wr.lt {T : TypeId} {w : World} {p : Nat} {v : Value} {xs : List UInt8} (h : Wr T w p v xs) {k : Nat} (hk : own p v k) : k < w.heap.size := by
  rcases hk with rfl | hk
  · exact h.1.lt
  · exact (h.2.lt k hk).2
/-- what was there before the call and is none of the writer's is as it was. -/
theorem WrTo.below {p : Nat} {v v' : Value} {w w' : World} (h : WrTo p v v' w w') {B : Nat} (hB : B ≤ w.heap.size) (hn : ∀ k, own p v k → B ≤ k) : Below B w w' :=
  h.1.below hB fun i hi g => by have := hn i g; omega
theorem u8_info : (Try.prog.info? 5).map (fun i => (i.zero, i.size, i.bytes)) = some (some (.int .u8 0), 1, 1) := by kernel_rfl

theorem put_end {T : TypeId} {w w1 : World} {p n : Nat} {v v1 : Value} {xs ys : List UInt8} (hn : ys.length = n) (h1 : w1.ownsRow 0 5 1 v1 (xs.length + n) (byts xs ++ byts ys)) (hg : w.grownBy w1 v.ownBlock)
    (hat : v1.ownBlock = v.ownBlock ∨ v1.ownBlock = some w.heap.size) (hb : Blk w1 p T #[v]) (hne : 5 ≠ T) : WrPost T p v (xs ++ ys) w (.returned (.tuple #[])) (w1.setCell ⟨p, 0, none⟩ v1) := by
  refine ⟨rfl, v1, ⟨hb.put 0 v1, ?_⟩, (Frm.of_grown hg fun i hi => .inr hi).setCell (fun _ => .inl rfl) _, fun k hk => ?_⟩
  · rw [List.length_append, hn, byts_append]
    refine own_frm h1 ((Frm.refl (· = p) w1).setCell (fun _ => rfl) _) fun k hk e => ?_
    exact own_apart h1 hb hne (by rw [hk, e])
  · rcases hat with e | e
    · exact .inl (by rw [← e]; exact hk)
    · rw [e] at hk
      injection hk with hk
      exact .inr (by omega)

set_option maxRecDepth 100000 in
set_option maxHeartbeats 1000000 in
theorem put_any (p : Nat) (v : Value) (xs ys : List UInt8) (A : Option Addr) (n c : Nat) (w : World) (hw : Wr 93 w p v xs) (hr : Sl w 1 A n (byts ys)) (hl : Fit (xs.length + ys.length)) :
    Calls Try.prog 79 #[.pointer (some ⟨p, 0, none⟩), .slice A n c] w (WrPost 93 p v (xs ++ ys) w) := by
  have hn : ys.length = n := by simpa [byts_len] using hr.1
  have HN := Lib.hid hn
  obtain ⟨hb, hown⟩ := hw
  have hc : w.cell? ⟨p, 0, none⟩ = some v := hb.cell 0
  have HA := Lib.hid (own_apart hown hb (by decide))
  obtain ⟨i0, hi0, hz0, hz1, hz2⟩ := info_parts u8_info
  have HB := Lib.hid hb
  clear hn hb
  go_enter Try.func79, Try.ntmps79
  go_wp2_with (at_builtin; refine wpList_append_sl _ rfl (.tmp 8) (.tmp 9) 40 rfl 5 i0 (.int .u8 0) 1 1 Try.underlying40 hi0 hz0 hz1 hz2 rfl (by decide) v xs.length (byts xs) rfl hown A n c (byts ys) rfl hr (byts_one _) (by have := HN.out; have := hl.le; unfold maxLen; omega) (by have := HN.out; have := hl.le; omega) ?_; intro v1 w1 hown1 hg1 hat1; obtain ⟨A1, c1, rfl, hs1⟩ := own_form hown1; have hb1 := HB.out.grown hg1 HA.out; have q1 : w1.cell? ⟨p, 0, none⟩ = some v := hb1.cell 0; have f1 := hb1.frozen 0; have H1 := Lib.hid hown1; have H2 := Lib.hid hg1; have H3 := Lib.hid hat1; have H4 := Lib.hid hb1; clear hown1 hg1 hat1 hb1 hs1)
  go_end0
  exact put_end HN.out H1.out H2.out H3.out H4.out (by decide)

/-! ### what the walk writes -/
theorem low_byte (m : Nat) : bits .or .u8 (IntKind.u8.wrap (m : Int)) 128 = ((UInt8.ofNat (m % 128 + 128)).toNat : Int) := by
  have e : IntKind.u8.wrap (m : Int) = ((m % 256 : Nat) : Int) := by rw [IntKind.wrap_u8]; omega
  have e2 := u8_or_nat (m % 256) 128 (by omega) (by decide)
  rw [e, toNat_small (by omega)]
  refine e2.trans ?_
  have h2 : ∀ k, k < 256 → k ||| 128 = k % 128 + 128 := by decide +kernel
  rw [h2 _ (by omega)]
  omega
theorem last_byte (m : Nat) (h : m < 128) : (m : Int) = ((UInt8.ofNat m).toNat : Int) := by rw [toNat_small (by omega)]
theorem one_byte (w : World) (c : UInt8) (e : Int) (t : TypeId) {g : Nat} (hg : g = w.heap.size) (h : e = (c.toNat : Int)) : Sl (w.alloc (.cells #[.int .u8 e] t)) 1 (some ⟨g, 0, none⟩) 1 (byts [c]) :=
  ⟨rfl, fun _ => ⟨g, 0, rfl, fun j u hu => by rw [hg, World.cell?_alloc_mark, h]; simpa [byts] using hu⟩⟩
theorem Wr.alloc {T : TypeId} {w : World} {p : Nat} {v : Value} {xs : List UInt8} (h : Wr T w p v xs) (o : Obj) : Wr T (w.alloc o) p v xs :=
  h.keep (F := fun _ => False) ((Frm.refl _ _).alloc o) fun _ _ g => g
theorem WrTo.alloc {p : Nat} {v v' : Value} {w w' : World} (h : WrTo p v v' w w') (o : Obj) : WrTo p v v' w (w'.alloc o) := ⟨h.1.alloc o, h.2⟩
theorem uv_step {m : Nat} {ys zs : List UInt8} (hm : ¬ m < 128) (h : ys ++ uv m = zs) : (ys ++ [UInt8.ofNat (m % 128 + 128)]) ++ uv (m / 128) = zs := by
  rw [← h, uv_big hm]
  simp
theorem uv_last {m : Nat} {ys zs : List UInt8} (hm : m < 128) (h : ys ++ uv m = zs) : ys ++ [UInt8.ofNat m] = zs := by
  rw [← h, uv_small hm]

set_option maxRecDepth 100000 in
set_option maxHeartbeats 1000000 in
theorem uint_any (p : Nat) (v : Value) (xs : List UInt8) (n : Nat) (w : World) (hw : Wr 93 w p v xs) (hn : N64 n) (hl : Fit (xs.length + 10)) :
    Calls Try.prog 46 #[.pointer (some ⟨p, 0, none⟩), .int .u64 (n : Int)] w (WrPost 93 p v (xs ++ uv n) w) := by
  have HW := Lib.hid hw
  have HL : Hid (Fit (xs ++ uv n).length) := by
    have := uv_len64 hn
    exact hl.of (by rw [List.length_append]; omega)
  clear hw
  go_enter Try.func46, Try.ntmps46
  go_wp2
  go_loopw [1] (fun x wr => ∃ (m : Nat) (u : Value) (ys : List UInt8), N64 m ∧ x = .int .u64 (m : Int) ∧ Wr 93 wr p u ys ∧ WrTo p v u w wr ∧ Hid (ys ++ uv m = xs ++ uv n)) (fun x _ => (intOf x).toNat)
  case atStart => exact ⟨n, v, xs, hn, rfl, HW.out, WrTo.refl _ _ _, rfl⟩
  case round =>
    obtain ⟨m, u, ys, hm, rfl, hw1, ht1, HE⟩ := hrel
    have K1 := Lib.hid hw1
    have K2 := Lib.hid ht1
    have HY : Hid (Fit (ys.length + 1)) := by
      have h1 := HL.out
      rw [← HE.out, List.length_append] at h1
      have := uv_pos m
      exact h1.of (by omega)
    clear hw1 ht1
    by_cases h : m < 128
    · have HB := Lib.hid (last_byte m h)
      have hE2 := Lib.hid (uv_last h HE.out)
      clear HE
      go_wp2_with fail
      refine (put_any p u ys [UInt8.ofNat m] _ 1 _ _ (K1.out.alloc _) (by exact one_byte _ _ _ _ rfl HB.out) HY.out).mono ?_
      rintro e w1 ⟨rfl, v1, hw1, ht1⟩
      rw [hE2.out] at hw1
      have K3 : Hid (WrTo p v v1 w w1) := K2.out.trans (((WrTo.refl p u _).alloc _).trans ht1)
      have K4 := Lib.hid hw1
      clear hw1 ht1 hE2
      go_wp2_with fail
      go_end0
      exact ⟨rfl, v1, K4.out, K3.out⟩
    · have HB := Lib.hid (low_byte m)
      have hE2 := Lib.hid (uv_step h HE.out)
      clear HE
      go_wp2_with fail
      refine (put_any p u ys [UInt8.ofNat (m % 128 + 128)] _ 1 _ _ (K1.out.alloc _) (by exact one_byte _ _ _ _ rfl HB.out) HY.out).mono ?_
      rintro e w1 ⟨rfl, v1, hw1, ht1⟩
      have K3 : Hid (WrTo p v v1 w w1) := K2.out.trans (((WrTo.refl p u _).alloc _).trans ht1)
      have K4 := Lib.hid hw1
      clear hw1 ht1
      go_wp2_with fail
      go_roundw
      case rel => exact ⟨m / 128, v1, _, hm.div, by go_num, K4.out, K3.out, hE2⟩
      case measure => simp [intOf]; omega
end Go.Proofs.Ythpmngdpgniehaa.Wr
