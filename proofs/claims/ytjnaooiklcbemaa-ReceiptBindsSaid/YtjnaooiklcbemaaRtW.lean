/-
  The walks of package receipt: signed. Conditions: texts of at most 100000 bytes; numbers of their kinds.
-/
import Derived.Test.YtjnaooiklcbemaaWrW2
import Derived.Test.YtjnaooiklcbemaaRtPlain
namespace Go.Proofs.Ytjnaooiklcbemaa.Rt
open Go.RowKit Go.Proofs.Ytjnaooiklcbemaa.Mem Go.Proofs.Ytjnaooiklcbemaa.Wr Go.Proofs.Ytjnaooiklcbemaa.Dg

structure Rc.lim (r : Rc) : Prop where
  num : r.num.size ≤ 100000
  game : r.game.size ≤ 100000
  slip : r.slip.size ≤ 100000
/-- what is written behind k of the three texts, and behind k of the three numbers. -/
def pre3 (r : Rc) (k : Nat) : List UInt8 := match k with
  | 0 => []
  | 1 => [] ++ wText r.num.data.toList
  | 2 => [] ++ wText r.num.data.toList ++ wText r.game.data.toList
  | _ => [] ++ wText r.num.data.toList ++ wText r.game.data.toList ++ wText r.slip.data.toList
def pre6 (r : Rc) (k : Nat) : List UInt8 := match k with
  | 0 => pre3 r 3
  | 1 => pre3 r 3 ++ wInt r.first
  | 2 => pre3 r 3 ++ wInt r.first ++ wInt r.price
  | _ => pre3 r 3 ++ wInt r.first ++ wInt r.price ++ wInt r.date
theorem pre6_part (r : Rc) : pre6 r 3 = r.part := rfl
theorem wText_len (l : List UInt8) (h : l.length ≤ 100000) : (wText l).length ≤ 100010 := by
  have := uv_len64 (n := l.length) (by omega)
  unfold wText
  rw [List.length_append]
  omega
theorem i64_of {x : Int} (h : i64 x) : I64 x := h
theorem pre3_len {r : Rc} (h : r.lim) (k : Nat) : (pre3 r k).length ≤ 300030 := by
  have h1 := wText_len r.num.data.toList h.num
  have h2 := wText_len r.game.data.toList h.game
  have h3 := wText_len r.slip.data.toList h.slip
  match k with
  | 0 => simp [pre3]
  | 1 => simp [pre3]; omega
  | 2 => simp [pre3]; omega
  | k + 3 => simp [pre3]; omega
theorem pre6_len {r : Rc} (h : r.lim) (ho : r.ok) (k : Nat) : (pre6 r k).length ≤ 300060 := by
  have h0 := pre3_len h 3
  have h1 := wInt_len (i64_of ho.first)
  have h2 := wInt_len (i64_of ho.price)
  have h3 := wInt_len (i64_of ho.date)
  match k with
  | 0 => show (pre3 r 3).length ≤ _; omega
  | 1 => show (pre3 r 3 ++ wInt r.first).length ≤ _; simp only [List.length_append]; omega
  | 2 => show (pre3 r 3 ++ wInt r.first ++ wInt r.price).length ≤ _; simp only [List.length_append]; omega
  | k + 3 => show (pre3 r 3 ++ wInt r.first ++ wInt r.price ++ wInt r.date).length ≤ _; simp only [List.length_append]; omega
theorem part_le {r : Rc} (h : r.lim) (ho : r.ok) : r.part.length ≤ 300060 := by rw [← pre6_part]; exact pre6_len h ho 3
theorem fit_of {n : Nat} (h : n ≤ 1000000) : Fit n := by unfold Fit; omega

/-- a writer of the call's own. -/
def NewWr (T : TypeId) (xs : List UInt8) (w : World) (e : Ending) (w' : World) : Prop :=
  ∃ g v, e = .returned (.pointer (some ⟨g, 0, none⟩)) ∧ Wr T w' g v xs ∧ (∀ k, own g v k → w.heap.size ≤ k) ∧ Below w.heap.size w w'
theorem own0 {g : Nat} {k B : Nat} (hg : B ≤ g) (h : own g (.slice none 0 0) k) : B ≤ k := by
  rcases h with rfl | h
  · exact hg
  · cases h
theorem newWr_end {T : TypeId} {xs : List UInt8} {w w1 w2 : World} {g : Nat} {v : Value} (hg : w.heap.size ≤ g) (hb : Below w.heap.size w w1) (hw : Wr T w2 g v xs) (ht : WrTo g (.slice none 0 0) v w1 w2) : NewWr T xs w (.returned (.pointer (some ⟨g, 0, none⟩))) w2 := by
  refine ⟨g, v, rfl, hw, fun k hk => ?_, hb.trans (ht.below hb.size fun k hk => own0 hg hk)⟩
  rcases hk with rfl | hk
  · exact hg
  · rcases ht.2 k hk with h | h
    · cases h
    · exact Nat.le_trans hb.size h
set_option maxRecDepth 100000 in
theorem idxS0 (a b c : ByteArray) (W : World) : (Instr.index 65 (.agg #[.string a, .string b, .string c]) (.int .i64 0)).run Try.prog W = .ok (.string a) W := by kernel_rfl
theorem idxS1 (a b c : ByteArray) (W : World) : (Instr.index 65 (.agg #[.string a, .string b, .string c]) (.int .i64 1)).run Try.prog W = .ok (.string b) W := by kernel_rfl
theorem idxS2 (a b c : ByteArray) (W : World) : (Instr.index 65 (.agg #[.string a, .string b, .string c]) (.int .i64 2)).run Try.prog W = .ok (.string c) W := by kernel_rfl
theorem idxI0 (a b c : Int) (W : World) : (Instr.index 67 (.agg #[.int .i64 a, .int .i64 b, .int .i64 c]) (.int .i64 0)).run Try.prog W = .ok (.int .i64 a) W := by kernel_rfl
theorem idxI1 (a b c : Int) (W : World) : (Instr.index 67 (.agg #[.int .i64 a, .int .i64 b, .int .i64 c]) (.int .i64 1)).run Try.prog W = .ok (.int .i64 b) W := by kernel_rfl
theorem idxI2 (a b c : Int) (W : World) : (Instr.index 67 (.agg #[.int .i64 a, .int .i64 b, .int .i64 c]) (.int .i64 2)).run Try.prog W = .ok (.int .i64 c) W := by kernel_rfl

/-- the loops' relation: so many of the parts are written. -/
def Sg (T : TypeId) (g : Nat) (w1 : World) (f : Nat → List UInt8) (k : Nat) (wr : World) : Prop := ∃ v, Wr T wr g v (f k) ∧ WrTo g (.slice none 0 0) v w1 wr
theorem sg_step {T : TypeId} {g : Nat} {w1 wr w2 : World} {v v2 : Value} {f : Nat → List UInt8} {k : Nat} {xs : List UInt8} (ht : WrTo g (.slice none 0 0) v w1 wr) (hw : Wr T w2 g v2 xs) (h2 : WrTo g v v2 wr w2) (he : xs = f k) : Sg T g w1 f k w2 := ⟨v2, by rw [← he]; exact hw, ht.trans h2⟩

set_option maxRecDepth 100000 in
set_option maxHeartbeats 2000000 in
theorem signed_any (r : Rc) (w : World) (hl : r.lim) (ho : r.ok) :
    Calls Try.prog 25 #[.agg r.cells] w (NewWr 70 r.part w) := by
  have HL := Lib.hid hl
  have HO := Lib.hid ho
  obtain ⟨W, hW⟩ : ∃ W, W = w.alloc (.cells r.cells 24) := ⟨_, rfl⟩
  have KB : Hid (Blk W w.heap.size 24 r.cells) := by rw [hW]; exact Blk.new _ _ _
  have B0 : Hid (Below w.heap.size w W) := by rw [hW]; exact (Below.refl _ _).alloc (Nat.le_refl _) _
  have Z0 : Hid (w.heap.size < W.heap.size) := by rw [hW]; show _ < _; simp
  have HW : Hid (W = w.alloc (.cells #[.string r.num, .string r.game, .string r.slip, .int .i64 r.first, .int .i64 r.price, .int .i64 r.date, .int .u64 (r.sign : Int)] 24)) := hW
  have S0 := fun W => idxS0 r.num r.game r.slip W
  have S1 := fun W => idxS1 r.num r.game r.slip W
  have S2 := fun W => idxS2 r.num r.game r.slip W
  have I0 := fun W => idxI0 r.first r.price r.date W
  have I1 := fun W => idxI1 r.first r.price r.date W
  have I2 := fun W => idxI2 r.first r.price r.date W
  clear hW hl ho
  unfold Rc.cells
  go_enter Try.func25, Try.ntmps25
  go_wp2_with fail
  rw [← HW.out]
  refine (newWriter_any _).mono ?_
  rintro e w1 ⟨g, rfl, hg, hw1, hb1⟩
  have H1 := Lib.hid hw1
  have B1 := Lib.hid hb1
  have K1 : Hid (Blk w1 w.heap.size 24 r.cells) := KB.out.below hb1 Z0.out
  have HG := Lib.hid hg
  have q0 : w1.cell? ⟨w.heap.size, 0, none⟩ = some (.string r.num) := K1.out.cell 0
  have q1 : w1.cell? ⟨w.heap.size, 1, none⟩ = some (.string r.game) := K1.out.cell 1
  have q2 : w1.cell? ⟨w.heap.size, 2, none⟩ = some (.string r.slip) := K1.out.cell 2
  clear hg hw1 hb1
  go_wp2_with fail
  go_loopw [16] (fun i wr => ∃ k : Nat, k ≤ 3 ∧ i = .int .i64 k ∧ Hid (Sg 70 g w1 (pre3 r) k wr)) (fun i _ => 3 - (intOf i).toNat)
  case atStart => exact ⟨0, by omega, rfl, ⟨_, H1.out, WrTo.refl _ _ _⟩⟩
  case round =>
    obtain ⟨k, hk, rfl, HS⟩ := hrel
    obtain ⟨v, hw, ht⟩ := HS.out
    have Hw := Lib.hid hw
    have Ht := Lib.hid ht
    clear hw ht HS
    obtain rfl | rfl | rfl | rfl : k = 0 ∨ k = 1 ∨ k = 2 ∨ k = 3 := by omega
    · go_wp2_with fail
      refine (wtext_any g v _ r.num _ Hw.out (by have := HL.out.num; omega) (fit_of (by have := pre3_len HL.out 0; have := HL.out.num; omega))).mono ?_
      rintro e w2 ⟨rfl, v2, hw2, ht2⟩
      have HS2 : Hid (Sg 70 g w1 (pre3 r) 1 w2) := sg_step Ht.out hw2 ht2 rfl
      clear hw2 ht2
      go_wp2_with fail
      go_roundw
      case rel => exact ⟨1, by omega, by go_num, HS2⟩
      case measure => simp [intOf] <;> omega
    · go_wp2_with fail
      refine (wtext_any g v _ r.game _ Hw.out (by have := HL.out.game; omega) (fit_of (by have := pre3_len HL.out 1; have := HL.out.game; omega))).mono ?_
      rintro e w2 ⟨rfl, v2, hw2, ht2⟩
      have HS2 : Hid (Sg 70 g w1 (pre3 r) 2 w2) := sg_step Ht.out hw2 ht2 rfl
      clear hw2 ht2
      go_wp2_with fail
      go_roundw
      case rel => exact ⟨2, by omega, by go_num, HS2⟩
      case measure => simp [intOf] <;> omega
    · go_wp2_with fail
      refine (wtext_any g v _ r.slip _ Hw.out (by have := HL.out.slip; omega) (fit_of (by have := pre3_len HL.out 2; have := HL.out.slip; omega))).mono ?_
      rintro e w2 ⟨rfl, v2, hw2, ht2⟩
      have HS2 : Hid (Sg 70 g w1 (pre3 r) 3 w2) := sg_step Ht.out hw2 ht2 rfl
      clear hw2 ht2
      go_wp2_with fail
      go_roundw
      case rel => exact ⟨3, by omega, by go_num, HS2⟩
      case measure => simp [intOf] <;> omega
    · have K3 : Hid (Blk wr w.heap.size 24 r.cells) := K1.out.frm Ht.out.1 (fun h => by have := own0 HG.out h; have := Z0.out; omega)
      have p3 : wr.cell? ⟨w.heap.size, 3, none⟩ = some (.int .i64 r.first) := K3.out.cell 3
      have p4 : wr.cell? ⟨w.heap.size, 4, none⟩ = some (.int .i64 r.price) := K3.out.cell 4
      have p5 : wr.cell? ⟨w.heap.size, 5, none⟩ = some (.int .i64 r.date) := K3.out.cell 5
      go_wp2_with fail
      obtain ⟨w3, rfl⟩ : ∃ w3 : World, w3 = wr := ⟨_, rfl⟩
      simp only [Int.cast_ofNat_Int]
      go_loopw [30] (fun i wr => ∃ k : Nat, k ≤ 3 ∧ i = .int .i64 k ∧ Hid (Sg 70 g w1 (pre6 r) k wr)) (fun i _ => 3 - (intOf i).toNat)
      case atStart => exact ⟨0, by omega, rfl, ⟨_, Hw.out, Ht.out⟩⟩
      case round =>
        obtain ⟨k, hk2, rfl, HS2⟩ := hrel
        obtain ⟨v2, hw2, ht2⟩ := HS2.out
        have Hw2 := Lib.hid hw2
        have Ht2 := Lib.hid ht2
        clear hw2 ht2 HS2
        obtain rfl | rfl | rfl | rfl : k = 0 ∨ k = 1 ∨ k = 2 ∨ k = 3 := by omega
        · go_wp2_with fail
          refine (wint_any g v2 _ r.first _ Hw2.out (i64_of HO.out.first) (fit_of (by have := pre6_len HL.out HO.out 0; omega))).mono ?_
          rintro e w4 ⟨rfl, v4, hw4, ht4⟩
          have HS4 : Hid (Sg 70 g w1 (pre6 r) 1 w4) := sg_step Ht2.out hw4 ht4 rfl
          clear hw4 ht4
          go_wp2_with fail
          go_roundw
          case rel => exact ⟨1, by omega, by go_num, HS4⟩
          case measure => simp [intOf] <;> omega
        · go_wp2_with fail
          refine (wint_any g v2 _ r.price _ Hw2.out (i64_of HO.out.price) (fit_of (by have := pre6_len HL.out HO.out 1; omega))).mono ?_
          rintro e w4 ⟨rfl, v4, hw4, ht4⟩
          have HS4 : Hid (Sg 70 g w1 (pre6 r) 2 w4) := sg_step Ht2.out hw4 ht4 rfl
          clear hw4 ht4
          go_wp2_with fail
          go_roundw
          case rel => exact ⟨2, by omega, by go_num, HS4⟩
          case measure => simp [intOf] <;> omega
        · go_wp2_with fail
          refine (wint_any g v2 _ r.date _ Hw2.out (i64_of HO.out.date) (fit_of (by have := pre6_len HL.out HO.out 2; omega))).mono ?_
          rintro e w4 ⟨rfl, v4, hw4, ht4⟩
          have HS4 : Hid (Sg 70 g w1 (pre6 r) 3 w4) := sg_step Ht2.out hw4 ht4 rfl
          clear hw4 ht4
          go_wp2_with fail
          go_roundw
          case rel => exact ⟨3, by omega, by go_num, HS4⟩
          case measure => simp [intOf] <;> omega
        · go_wp2_with fail
          go_ret
          exact newWr_end (Nat.le_trans (Nat.le_of_lt Z0.out) HG.out) (B0.out.trans (B1.out.mono (Nat.le_of_lt Z0.out))) Hw2.out Ht2.out
end Go.Proofs.Ytjnaooiklcbemaa.Rt
