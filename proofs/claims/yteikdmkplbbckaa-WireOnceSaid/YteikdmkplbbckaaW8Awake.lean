/-
  The examples of chapter 8 hold ('awake'): the walk. No conditions.
-/
import Derived.Test.YteikdmkplbbckaaWrR5
import Derived.Test.YteikdmkplbbckaaFr2
import Derived.Test.YteikdmkplbbckaaEqs
import Derived.Lib.SlBytesConst
namespace Go.Proofs.Yteikdmkplbbckaa.Wr
open Go.RowKit Go.Proofs.Yteikdmkplbbckaa.Mem Go.Proofs.Yteikdmkplbbckaa.Eqs

theorem uv_300 : uv 300 = [172, 2] := by rw [uv_big (by decide), uv_small (by decide)]; rfl
def exBytes : List UInt8 := [172, 2, 1, 2, 97, 98, 2, 2, 3]
theorem ex_bytes : uv 300 ++ wInt (-1) ++ wText [97, 98] ++ wInts [1, -2] = exBytes := by
  have e1 : wInt (-1) = [1] := uv_small (by decide)
  have e2 : uv ([97, 98] : List UInt8).length = [2] := uv_small (by decide)
  have e3 : uv ([1, -2] : List Int).length = [2] := uv_small (by decide)
  have e4 : wInt 1 = [2] := uv_small (by decide)
  have e5 : wInt (-2) = [3] := uv_small (by decide)
  simp only [uv_300, e1, wText, wInts, wIntsL, e2, e3, List.flatMap_cons, List.flatMap_nil, e4, e5]
  rfl
theorem ex1 : rU exBytes ⟨0, 0⟩ = (300, ⟨2, 0⟩) := by rfl
theorem ex2 : rI exBytes ⟨2, 0⟩ = (-1, ⟨3, 0⟩) := by rfl
theorem ex3 : rT exBytes 2 ⟨3, 0⟩ = ([97, 98], ⟨6, 0⟩) := by rfl
theorem ex4 : rIs exBytes 2 ⟨6, 0⟩ = ([1, -2], ⟨9, 0⟩) := by rfl
theorem ex5 : rLeft exBytes ⟨9, 0⟩ = 0 := by rfl
theorem ex6 : nres (next (frame [97, 98, 99]) 0) = ([97, 98, 99], 12, 0) := by
  have h := nextN_frame (p := []) (b := [97, 98, 99]) (r := []) (by decide)
  have e : uv ([97, 98, 99] : List UInt8).length = [3] := uv_small (by decide)
  have h2 : next (frame [97, 98, 99]) ((0 : Nat) : Int) = nextN (frame [97, 98, 99]) 0 := next_at (Nat.zero_le _)
  rw [List.append_nil, List.nil_append] at h
  rw [show next (frame [97, 98, 99]) 0 = nextN (frame [97, 98, 99]) 0 from h2, show (0 : Nat) = ([] : List UInt8).length from rfl, h, frame_len, e]
  rfl
theorem exFrameLen : (frame [97, 98, 99]).length = 12 := by
  have e : uv ([97, 98, 99] : List UInt8).length = [3] := uv_small (by decide)
  rw [frame_len, e]
  rfl
theorem i64_lit {x : Int} (h1 : -9223372036854775808 ≤ x) (h2 : x ≤ 9223372036854775807) : I64 x := ⟨h1, h2⟩
theorem row_ints (w : World) (xs : List Int) (t : TypeId) (n g : Nat) (hn : xs.length = n) (hg : g = w.heap.size) : Sl (w.alloc (.cells (ints xs).toArray t)) 1 (some ⟨g, 0, none⟩) n (ints xs) :=
  ⟨by rw [ints_len, hn, Nat.mul_one], fun _ => ⟨g, 0, rfl, fun j u hu => by rw [hg, World.cell?_alloc_mark]; simpa using hu⟩⟩
theorem row_byts (w : World) (xs : List UInt8) (t : TypeId) (fr : Nat × Nat) (n g : Nat) (hn : xs.length = n) (hg : g = w.heap.size) : Sl (w.alloc (.cells (byts xs).toArray t fr)) 1 (some ⟨g, 0, none⟩) n (byts xs) :=
  ⟨by rw [byts_len, hn, Nat.mul_one], fun _ => ⟨g, 0, rfl, fun j u hu => by rw [hg, World.cell?_alloc_mark]; simpa using hu⟩⟩
/-- a row of the call's own: its capacity is enough. -/
theorem own_cap {w : World} {base : Nat} {e : TypeId} {size n m c : Nat} {A : Option Addr} {xs : List Value} (h : w.ownsRow base e size (.slice A n c) m xs) : n ≤ c ∧ c ≤ 9223372036854775807 := by
  rcases h.2 with ⟨e, h0⟩ | ⟨g, cap, cur, e, _, _, h6, h7, _⟩
  · injection e with _ e2 e3
    omega
  · injection e with _ e2 e3
    unfold maxLen at h7
    omega

set_option maxRecDepth 100000 in
set_option maxHeartbeats 4000000 in
theorem awake8 (w : World) : Calls Try.prog 12 #[] w fun e w' => e = .returned (.bool true) ∧ Below w.heap.size w w' := by
  have HFit : Hid (Fit 10000000000) := by unfold Fit; show _ ≤ _; decide
  go_enter Try.func12, Try.ntmps12
  go_wp2_with fail
  refine (newWriter_any _).mono ?_
  rintro e w1 ⟨g, rfl, hg, hw1, hb1⟩
  have HOwn : Hid (∀ k, own g (.slice none 0 0) k → w.heap.size ≤ k) := fun k hk => by
    rcases hk with rfl | hk
    · exact hg
    · cases hk
  have H1 := Lib.hid hw1
  have B1 := Lib.hid hb1
  clear hg hw1 hb1
  go_wp2_with fail
  refine (uint_any g _ [] 300 _ H1.out (by unfold N64; decide) (HFit.out.of (by simp))).mono ?_
  rintro e w2 ⟨rfl, v2, hw2, ht2⟩
  have H2 := Lib.hid hw2
  have T2 := Lib.hid ht2
  clear hw2 ht2
  go_wp2_with fail
  refine (wint_any g v2 _ (-1) _ H2.out (i64_lit (by omega) (by omega)) (HFit.out.of (by rw [uv_300]; simp))).mono ?_
  rintro e w3 ⟨rfl, v3, hw3, ht3⟩
  have H3 := Lib.hid hw3
  have T3 := Lib.hid (T2.out.trans ht3)
  clear hw3 ht3
  have L3 : Hid ((([] : List UInt8) ++ uv 300 ++ wInt (-1)).length = 3) := by
    have e1 : wInt (-1) = [1] := uv_small (by decide)
    show _ = _
    rw [uv_300, e1]
    rfl
  go_wp2_with fail
  refine (wtext_any g v3 _ ⟨#[97, 98]⟩ _ H3.out (by decide) (HFit.out.of (by rw [L3.out]; decide))).mono ?_
  rintro e w4 ⟨rfl, v4, hw4, ht4⟩
  have H4 := Lib.hid hw4
  have T4 := Lib.hid (T3.out.trans ht4)
  have L4 : Hid ((([] : List UInt8) ++ uv 300 ++ wInt (-1) ++ wText (⟨#[97, 98]⟩ : ByteArray).data.toList).length = 6) := by
    show _ = _
    rw [List.length_append, L3.out]
    have e2 : uv ([97, 98] : List UInt8).length = [2] := uv_small (by decide)
    show 3 + (uv ([97, 98] : List UInt8).length ++ [97, 98]).length = 6
    rw [e2]
    rfl
  clear hw4 ht4
  go_wp2_with fail
  refine (wints_any g v4 _ [1, -2] _ 2 _ _ (H4.out.alloc _) (by exact row_ints w4 [1, -2] _ 2 _ rfl rfl) (by
    rintro _ a ha hk
    injection ha with ha
    subst ha
    have := H4.out.lt hk
    simp at this) (by
    intro x hx
    simp only [List.mem_cons, List.not_mem_nil, or_false] at hx
    rcases hx with rfl | rfl
    · exact i64_lit (by omega) (by omega)
    · exact i64_lit (by omega) (by omega)) (by decide) (HFit.out.of (by rw [L4.out]; decide))).mono ?_
  rintro e w5 ⟨rfl, v5, hw5, ht5⟩
  have T5 : Hid (WrTo g (.slice none 0 0) v5 w1 w5) := (T4.out.alloc _).trans ht5
  have H5 : Hid (Wr 66 w5 g v5 exBytes) := by rw [← ex_bytes]; exact hw5
  clear hw5 ht5 H1 H2 H3 H4 T2 T3 T4 L3 L4
  have B5 : Hid (Below w.heap.size w w5) := B1.out.trans (T5.out.below B1.out.size HOwn.out)
  go_wp2_with fail
  refine (wbytes_any g v5 exBytes _ H5.out (HFit.out.of (by decide))).mono ?_
  rintro e w6 ⟨v6, rfl, o6, f6, b6⟩
  obtain ⟨A6, c6, rfl, s6⟩ := own_form o6
  have S6 := Lib.hid s6
  have B6 := Lib.hid (B5.out.trans (b6.mono B5.out.size))
  clear o6 f6 s6 b6 H5 T5 HOwn
  go_wp2_with fail
  refine (newReader_any exBytes A6 exBytes.length c6 _ S6.out (by decide)).mono ?_
  rintro e w7 ⟨p, AR, rfl, hown7, hrd7, hb7⟩
  have B7 := Lib.hid (B6.out.trans (hb7.mono B6.out.size))
  have HO7 : Hid (∀ k, rown p AR k → w.heap.size ≤ k) := fun k hk => Nat.le_trans B6.out.size (hown7 k hk)
  have R7 := Lib.hid hrd7
  have hcn := run_string_sl (P := Try.prog) (w := w7) 38 9 5 Try.underlying38 Try.underlying5 Try.underlying9 (S6.out.below hb7 (Nat.le_refl _)) c6
  have t0 : (exBytes == [172, 2, 1, 2, 97, 98, 2, 2, 3]) = true := rfl
  clear hown7 hrd7 hb7
  go_wp2_with fail
  clear hcn
  refine (ruint_any p AR exBytes ⟨0, 0⟩ _ R7.out).mono ?_
  rw [ex1]
  rintro e w8 ⟨rfl, r8, f8⟩
  have R8 := Lib.hid r8
  have F8 := Lib.hid f8
  clear r8 f8
  go_wp2_with fail
  refine (rint_any p AR exBytes ⟨2, 0⟩ _ R8.out).mono ?_
  rw [ex2]
  rintro e w9 ⟨rfl, r9, f9⟩
  have R9 := Lib.hid r9
  have F9 := Lib.hid (Frm.two F8.out f9)
  clear r9 f9
  go_wp2_with fail
  refine (rtext_any p AR exBytes 2 ⟨3, 0⟩ _ R9.out (i64_lit (by omega) (by omega))).mono ?_
  rw [ex3]
  rintro e w10 ⟨rfl, r10, f10⟩
  have R10 := Lib.hid r10
  have F10 := Lib.hid (Frm.two F9.out f10)
  clear r10 f10
  go_wp2_with fail
  refine (rints_any p AR exBytes 2 ⟨6, 0⟩ _ R10.out (i64_lit (by omega) (by omega))).mono ?_
  rw [ex4]
  rintro e w11 ⟨v11, rfl, o11, fr11, r11, f11⟩
  obtain ⟨A11, c11, rfl, s11⟩ := own_form o11
  have R11 := Lib.hid r11
  have F11 := Lib.hid (Frm.two F10.out f11)
  have S11 := Lib.hid s11
  have B11 : Hid (Below w.heap.size w w11) := B7.out.trans (F11.out.below B7.out.size (fun i hi e => by have := HO7.out p (.inl rfl); omega))
  clear o11 fr11 r11 f11 s11 R7 R8 R9 R10 F8 F9 F10 F11
  have kc := fun (C : Array Value) (n c : Nat) => Lib.run_convert_bytes_const (P := Try.prog) w11 38 5 C n c Try.underlying38 Try.underlying5
  go_wp2_with fail
  clear kc
  refine (frame_any [97, 98, 99] _ 3 3 _ (by exact row_byts w11 [97, 98, 99] _ _ 3 _ rfl rfl) (by decide)).mono ?_
  rintro e w12 ⟨v12, rfl, o12, fr12, b12⟩
  obtain ⟨A12, c12, rfl, s12⟩ := own_form o12
  have C12 := Lib.hid (own_cap o12)
  have BK : Hid (Below w11.heap.size w11 w12) := ((Below.refl _ w11).alloc (Nat.le_refl _) _).trans (b12.mono (by simp))
  have S12 := Lib.hid s12
  clear o12 fr12 b12 s12
  go_wp2_with fail
  refine (next_any (frame [97, 98, 99]) A12 (frame [97, 98, 99]).length c12 0 _ S12.out (by rw [exFrameLen]; decide) C12.out.1 C12.out.2).mono ?_
  rw [ex6]
  rintro e w13 ⟨v13, rfl, o13, fr13, b13⟩
  obtain ⟨A13, c13, rfl, s13⟩ := own_form o13
  have S13 := Lib.hid s13
  have BL : Hid (Below w11.heap.size w11 w13) := BK.out.trans (b13.mono BK.out.size)
  have R13 := Lib.hid (R11.out.below BL.out)
  clear o13 fr13 b13 s13
  go_wp2_with fail
  refine (same08 [1, -2] [1, -2] 2 2 _ _ _ _ _ (by exact (S11.out.below BL.out (Nat.le_refl _)).alloc _) (by exact row_ints w13 [1, -2] _ 2 _ rfl rfl) (by decide)).mono ?_
  rintro e w14 ⟨rfl, q, hq⟩
  rw [show decide (([1, -2] : List Int) = [1, -2]) = true from decide_eq_true rfl]
  have BM : Hid (Below w13.heap.size w13 w14) := by rw [hq]; exact below_drewN ((Below.refl _ w13).alloc (Nat.le_refl _) _) q
  have R14 := Lib.hid (R13.out.below BM.out)
  clear hq
  go_wp2_with fail
  refine (rleft_any p AR exBytes ⟨9, 0⟩ _ R14.out).mono ?_
  rw [ex5]
  rintro e w15 ⟨rfl, q, hq⟩
  have BN : Hid (Below w13.heap.size w13 w15) := by rw [hq]; exact below_drewN BM.out q
  have R15 := Lib.hid (R13.out.below BN.out)
  clear hq
  go_wp2_with fail
  refine (rerr_any p AR exBytes ⟨9, 0⟩ _ R15.out).mono ?_
  rintro e w16 ⟨rfl, rfl⟩
  have hcn : (convert 38 9 (.slice A13 3 c13)).run Try.prog w15 = .ok (.string ⟨#[97, 98, 99]⟩) w15 := run_string_sl (P := Try.prog) 38 9 5 Try.underlying38 Try.underlying5 Try.underlying9 (l := [97, 98, 99]) (S13.out.below BN.out (Nat.le_refl _)) c13
  go_wp2_with fail
  go_ret
  exact ⟨rfl, B11.out.trans ((BL.out.mono B11.out.size).trans (BN.out.mono (Nat.le_trans B11.out.size BL.out.size)))⟩
end Go.Proofs.Yteikdmkplbbckaa.Wr
