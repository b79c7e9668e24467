/-
  The walk of lotterylaw50.awake: the chapter's example. Conditions: none.
-/
import Derived.Test.YthpmngdpgniehaaJrW4
namespace Go.Proofs.Ythpmngdpgniehaa.Jr
open Go.RowKit Go.Proofs.Ythpmngdpgniehaa.Mem Go.Proofs.Ythpmngdpgniehaa.Wr Go.Proofs.Ythpmngdpgniehaa.Opn
attribute [local go_sem ↓] exec_load_rec exec_store_rec

/-- a call that returns true and changes nothing that was there. -/
def YesB (w : World) (e : Ending) (w' : World) : Prop := e = .returned (.bool true) ∧ Below w.heap.size w w'
theorem jo_new {w : World} {g : Nat} (hb : Blk w g 58 #[.slice none 0 0, .int .u64 0]) : Jo (· = g) w g (.slice none 0 0) [] ((0 : Nat) : Int) :=
  ⟨hb, rfl, fun i hi => by rw [hi]; exact hb.lt, Row.none _ _ _⟩
theorem good_none : Good none_ := by
  refine ⟨⟨by decide, by decide, by decide, by decide, by decide, by decide, by decide, (fun x hx => by cases hx), by decide, by decide, by decide, (fun x hx => by cases hx)⟩, (within_iff _).1 (by decide)⟩
def exRec : Rec := ⟨0, 0, 0, 0, 0, ⟨#[]⟩, ⟨#[]⟩, [], 0, 0, ⟨#[120]⟩, [1, -2]⟩
theorem good_ex : Good exRec := by
  refine ⟨⟨by decide, by decide, by decide, by decide, by decide, by decide, by decide, (fun x hx => by cases hx), by decide, by decide, by decide, by decide⟩, (within_iff _).1 (by decide)⟩
theorem good_two : ∀ r ∈ [none_, exRec], Good r := fun r hr => by
  simp at hr
  rcases hr with rfl | rfl
  · exact good_none
  · exact good_ex
theorem enc_none : (enc none_).length = 12 := by
  have u0 : uv 0 = [0] := by rw [uv_small (by decide)]; rfl
  simp [enc, pre, part, none_, wInt, wText, wInts, wIntsL, zig, u0]
theorem ex_bytes : ∃ t, jbytes 0 [none_, exRec] = (20 : UInt8) :: t ∧ 29 < (jbytes 0 [none_, exRec]).length := by
  have h1 : (cont 0 none_).length = 20 := by rw [cont_len, enc_none]
  have hf : (frame (cont 0 none_)).length = 29 := by
    rw [frame_len, h1, uv_small (by decide)]
    rfl
  have hp := frame_pos (cont (hashN 0 (enc none_)) exRec)
  refine ⟨(cont 0 none_ ++ big (sumN (cont 0 none_))) ++ jbytes (hashN 0 (enc none_)) [exRec], ?_, ?_⟩
  · rw [jbytes]
    unfold frame
    rw [h1, uv_small (by decide)]
    rfl
  · rw [jbytes, jbytes, List.length_append, List.length_append, hf]
    omega
theorem ints_alloc (W : World) (ty : TypeId) : Sl (W.alloc (.cells #[.int .i64 1, .int .i64 (-2)] ty)) 1 (some ⟨W.heap.size, 0, none⟩) 2 (ints [1, -2]) :=
  ⟨rfl, fun _ => ⟨W.heap.size, 0, rfl, fun j u hu => by rw [World.cell?_alloc_mark]; simpa [ints] using hu⟩⟩
theorem own_cap {w : World} {base : Nat} {e : TypeId} {size n c : Nat} {A : Option Addr} {xs : List Value} (h : w.ownsRow base e size (.slice A n c) n xs) : n ≤ c ∧ c ≤ 9223372036854775807 := by
  rcases h.2 with ⟨e, rfl⟩ | ⟨g, cap, cur, e, _, _, hnc, hcm, _⟩
  · injection e with _ _ e
    omega
  · injection e with _ _ e
    unfold maxLen at hcm
    omega
set_option maxRecDepth 100000 in
set_option maxHeartbeats 8000000 in
theorem awake_any (w : World) : Calls Try.prog 12 #[] w (YesB w) := by
  go_enter Try.func12, Try.ntmps12
  go_wp2_with fail
  refine (new_any _).mono ?_
  rintro e w1 ⟨g, rfl, hg, k1, b1⟩
  have J1 := Lib.hid (jo_new k1)
  have B1 := Lib.hid b1
  have G1 := Lib.hid hg
  clear k1 b1 hg
  go_wp2_with fail
  refine (append_yes _ g _ [] 0 none_ _ _ J1.out (is_none _) (lst_zero _) (by decide) good_none).mono ?_
  rintro e w2 ⟨rfl, F2, v2, j2, f2, n2⟩
  have J2 := Lib.hid j2
  have B2 : Hid (Below w.heap.size w w2) := Lib.hid (B1.out.trans (f2.below B1.out.size (fun i hi e => by have := G1.out; have e : i = g := e; omega)))
  have N2 : Hid (∀ i, F2 i → w.heap.size ≤ i) := Lib.hid (fun i hi => by
    rcases n2 i hi with h | h
    · have := G1.out; have h : i = g := h; omega
    · exact Nat.le_trans B1.out.size h)
  clear j2 f2 n2 J1 B1
  go_wp2_with fail
  have I2 := ints_alloc w2 3
  have J3 := Lib.hid (J2.out.below ((Below.refl _ w2).alloc (Nat.le_refl _) (.cells #[.int .i64 1, .int .i64 (-2)] 3)))
  have IR3 : Hid (IsRec (w2.alloc (.cells #[.int .i64 1, .int .i64 (-2)] 3)) (recCells exRec none 0 (some ⟨w2.heap.size, 0, none⟩) 2) exRec) := Lib.hid ⟨none, 0, _, 2, rfl, Sl.nil_ _ _ _, I2, by decide, by decide⟩
  have LS3 : Hid (Lst (fun i => ¬ F2 i) (recCells exRec none 0 (some ⟨w2.heap.size, 0, none⟩) 2)) := Lib.hid (lst_two (fun a h => by cases h) (fun a h => by injection h with h; subst h; intro hF; have := J2.out.2.2.1 _ hF; exact Nat.lt_irrefl _ this))
  clear I2
  refine (append_yes F2 g v2 _ (hashN 0 (enc none_)) exRec _ _ J3.out IR3.out LS3.out (by decide) good_ex).mono ?_
  rintro e w3 ⟨rfl, F3, v3, j3, f3, n3⟩
  have J4 : Hid (Jo F3 w3 g v3 [none_, exRec] ((hashes 0 [none_, exRec] : Nat) : Int)) := Lib.hid j3
  have B3 : Hid (Below w.heap.size w w3) := Lib.hid ((B2.out.alloc B2.out.size _).trans (f3.below (Nat.le_trans B2.out.size (by simp)) (fun i hi e => by have := N2.out i e; omega)))
  obtain ⟨t, ht, hl⟩ := ex_bytes
  have HRD : Hid (readN (jbytes 0 [none_, exRec]) = ([none_, exRec], hashes 0 [none_, exRec], 0)) := Lib.hid (read_jbytes _ good_two (by decide))
  have HBL : Hid ((jbytes 0 [none_, exRec]).length ≤ 2 * 1200146) := Lib.hid (jbytes_len _ _ good_two)
  have HBY := Lib.hid (bytes_any F3 g v3 [none_, exRec] _ w3 J4.out good_two (by decide))
  generalize hashes 0 [none_, exRec] = hh at *
  generalize jbytes 0 [none_, exRec] = bs at *
  clear j3 f3 n3 J2 B2 N2 J3 IR3 LS3
  go_wp2_with fail
  refine HBY.out.mono ?_
  rintro e w4 ⟨v4, rfl, o4, _, b4⟩
  obtain ⟨A4, c4, rfl, s4⟩ := own_form o4
  obtain ⟨cn, cm⟩ := own_cap o4
  have J5 := Lib.hid (J4.out.below b4)
  have B4 := Lib.hid (B3.out.trans (b4.mono B3.out.size))
  obtain ⟨bb, bo, rfl, hcell⟩ := s4.open_ (by omega)
  have q4 : w4.cell? ⟨bb, bo, none⟩ = some (.int .u8 20) := by
    have := hcell 0 (.int .u8 20) (by rw [ht]; rfl)
    simpa using this
  have CR := read_any bs _ bs.length c4 w4 s4 (by have := HBL.out; omega) cn cm
  rw [HRD.out] at CR
  have HCR := Lib.hid CR
  clear CR hcell s4 o4 b4 HBY HRD J4 B3 cn cm ht
  go_wp2_with fail
  refine HCR.out.mono ?_
  rintro e w5 ⟨v5, rfl, row5, b5⟩
  obtain ⟨A5, c5, hv5, rs5, _⟩ := row5.form
  have hv5 : v5 = .slice A5 2 c5 := hv5
  subst hv5
  obtain ⟨lb, lo, cs, rfl, _, ⟨A7, c7, A11, c11, rfl, _, h11, _, _⟩, lc⟩ := rs5 1 exRec rfl
  obtain ⟨ab, ao, rfl, hac⟩ := h11.open_ (by decide)
  have x1 : w5.cell? ⟨lb, lo + 22, none⟩ = some (.string ⟨#[120]⟩) := lc 10 _ rfl
  have x2 : w5.cell? ⟨lb, lo + 23, none⟩ = some (.slice (some ⟨ab, ao, none⟩) 2 c11) := lc 11 _ rfl
  have x3 : w5.cell? ⟨ab, ao + 1, none⟩ = some (.int .i64 (-2)) := hac 1 _ rfl
  have x4 := b5.cell (World.block_lt_of_cell? w4 _ q4) |>.trans q4
  have J6 := Lib.hid (J5.out.below b5)
  have B5 := Lib.hid (B4.out.trans (b5.mono B4.out.size))
  clear row5 rs5 lc h11 hac b5 q4 HCR J5 B4
  go_wp2_with fail
  refine (encode_any none_ _ _ (is_none _) good_none.1 good_none.2.lim).mono ?_
  rintro e w6 ⟨v6, rfl, o6, _, b6⟩
  rw [enc_none] at o6
  obtain ⟨A6, c6, rfl, _⟩ := own_form o6
  have y1 := b6.cell (World.block_lt_of_cell? w5 _ x1) |>.trans x1
  have y2 := b6.cell (World.block_lt_of_cell? w5 _ x2) |>.trans x2
  have y3 := b6.cell (World.block_lt_of_cell? w5 _ x3) |>.trans x3
  have y4 := b6.cell (World.block_lt_of_cell? w5 _ x4) |>.trans x4
  have J7 := Lib.hid (J6.out.below b6)
  have B6 := Lib.hid (B5.out.trans (b6.mono B5.out.size))
  have hli : (29 : Int) < (bs.length : Int) := by omega
  have hl0 : (0 : Int) < (bs.length : Int) := by omega
  clear o6 b6 x1 x2 x3 x4 J6 B5
  go_wp2_with fail
  refine (len_any F3 g v3 _ _ _ J7.out).mono ?_
  rintro e w7 ⟨rfl, rfl⟩
  go_wp2_with fail
  refine (jhash_any F3 g v3 _ _ _ J7.out).mono ?_
  rintro e w7 ⟨rfl, rfl⟩
  go_wp2_with fail
  go_ret
  exact ⟨rfl, B6.out⟩
end Go.Proofs.Ythpmngdpgniehaa.Jr
