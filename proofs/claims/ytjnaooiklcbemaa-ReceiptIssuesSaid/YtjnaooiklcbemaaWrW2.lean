/-
  The walks of wire's Writer, second part: zigzag, Int, Text, Ints, Bytes, NewWriter. Conditions: the writer's block and its row lie in memory; sizes that a machine holds.
-/
import Derived.Test.YtjnaooiklcbemaaWrW
namespace Go.Proofs.Ytjnaooiklcbemaa.Wr
open Go.RowKit Go.Proofs.Ytjnaooiklcbemaa.Mem

/-- an int of 64 bits (the bounds are kept behind a word). -/
def I64 (x : Int) : Prop := -9223372036854775808 ≤ x ∧ x ≤ 9223372036854775807
theorem I64.zig {x : Int} (h : I64 x) : N64 (zig x) := zig_lt h.1 h.2
theorem ret_int {k : IntKind} {a b : Int} (h : a = b) : Ending.returned (.int k a) = .returned (.int k b) := by rw [h]
theorem zig_neg {x : Int} (h : I64 x) (hx : x < 0) : bits .or .u64 (IntKind.u64.wrap (IntKind.u64.wrap (wrap64 (-wrap64 (x + 1))) * 2)) 1 = (zig x : Int) := by
  obtain ⟨h1, h2⟩ := h
  have e : IntKind.u64.wrap (IntKind.u64.wrap (wrap64 (-wrap64 (x + 1))) * 2) = (((-(x + 1)).toNat * 2 : Nat) : Int) := by
    rw [IntWalk.wrap64_in (x + 1) ⟨by omega, by omega⟩, IntWalk.wrap64_in (-(x + 1)) ⟨by omega, by omega⟩, IntKind.wrap_u64, IntKind.wrap_u64]
    omega
  have e2 := u64_or_nat ((-(x + 1)).toNat * 2) 1 (by omega) (by decide)
  rw [e]
  refine e2.trans ?_
  rw [nat_join 1 _ _ (by omega) (by decide), zig, if_pos hx]
  omega
theorem zig_pos {x : Int} (h : I64 x) (hx : 0 ≤ x) : IntKind.u64.wrap (IntKind.u64.wrap x * 2) = (zig x : Int) := by
  obtain ⟨h1, h2⟩ := h
  rw [IntKind.wrap_u64, IntKind.wrap_u64, zig, if_neg (by omega)]
  omega
set_option maxRecDepth 100000 in
set_option maxHeartbeats 1000000 in
theorem zigzag_any (x : Int) (w : World) (hx : I64 x) : Calls Try.prog 63 #[.int .i64 x] w fun e w' => e = .returned (.int .u64 (zig x : Int)) ∧ w = w' := by
  have HX := Lib.hid hx
  clear hx
  by_cases h : x < 0
  · go_enter Try.func63, Try.ntmps63
    go_wp2
    go_ret
    exact ⟨ret_int (zig_neg HX.out h), rfl⟩
  · go_enter Try.func63, Try.ntmps63
    go_wp2
    go_ret
    exact ⟨ret_int (zig_pos HX.out h), rfl⟩

set_option maxRecDepth 100000 in
set_option maxHeartbeats 1000000 in
theorem wint_any (p : Nat) (v : Value) (xs : List UInt8) (x : Int) (w : World) (hw : Wr 70 w p v xs) (hx : I64 x) (hl : Fit (xs.length + 10)) :
    Calls Try.prog 48 #[.pointer (some ⟨p, 0, none⟩), .int .i64 x] w (WrPost 70 p v (xs ++ wInt x) w) := by
  have HW := Lib.hid hw
  have HX := Lib.hid hx
  clear hw hx
  go_enter Try.func48, Try.ntmps48
  go_wp2_with fail
  refine (zigzag_any x _ HX.out).mono ?_
  rintro e w' ⟨rfl, rfl⟩
  go_wp2_with fail
  refine (uint_any p v xs (zig x) _ HW.out HX.out.zig hl).mono ?_
  rintro e w1 ⟨rfl, v1, hw1, ht1⟩
  have H1 := Lib.hid hw1
  have H2 := Lib.hid ht1
  clear hw1 ht1
  go_wp2_with fail
  go_end0
  exact ⟨rfl, v1, H1.out, H2.out⟩

theorem Wr.below {T : TypeId} {w w' : World} {p : Nat} {v : Value} {xs : List UInt8} (h : Wr T w p v xs) (hb : Below w.heap.size w w') : Wr T w' p v xs :=
  h.keep (F := fun _ => False) (Frm.of_below hb fun i hi hg => by omega) fun _ _ g => g
theorem WrTo.further {p : Nat} {v v' : Value} {w w' w'' : World} (h : WrTo p v v' w w') (hb : Below w'.heap.size w' w'') : WrTo p v v' w w'' :=
  h.trans ⟨Frm.of_below hb fun i hi hg => by omega, fun _ hk => .inl hk⟩

set_option maxRecDepth 100000 in
set_option maxHeartbeats 1000000 in
theorem wtext_any (p : Nat) (v : Value) (xs : List UInt8) (s : ByteArray) (w : World) (hw : Wr 70 w p v xs) (hs : s.size ≤ 1000000000) (hl : Fit (xs.length + 10 + s.size)) :
    Calls Try.prog 47 #[.pointer (some ⟨p, 0, none⟩), .string s] w (WrPost 70 p v (xs ++ wText s.data.toList) w) := by
  have HW := Lib.hid hw
  have HN : Hid (N64 s.size) := by unfold N64; show _ < _; omega
  have HE : Hid ((xs ++ uv s.size) ++ s.data.toList = xs ++ wText s.data.toList) := by
    show _ = _
    rw [wText, List.append_assoc]
    rfl
  have HF : Hid (Fit ((xs ++ uv s.size).length + s.data.toList.length)) := by
    have := uv_len64 HN.out
    refine hl.of ?_
    rw [List.length_append]
    show _ + s.size ≤ _
    omega
  clear hw
  go_enter Try.func47, Try.ntmps47
  go_wp2_with fail
  refine (uint_any p v xs s.size _ HW.out HN.out (hl.of (by omega))).mono ?_
  rintro e w1 ⟨rfl, v1, hw1, ht1⟩
  obtain ⟨A2, c2, w2, hr2, hs2, hb2⟩ := run_bytes_sl (P := Try.prog) w1 9 38 5 s Try.underlying9 Try.underlying38 Try.underlying5
  have H1 := Lib.hid (hw1.below hb2)
  have H2 := Lib.hid (ht1.further hb2)
  have H3 := Lib.hid hs2
  clear hw1 ht1 hs2 hb2
  go_wp2_with fail
  clear hr2
  refine (put_any p v1 (xs ++ uv s.size) s.data.toList A2 s.size c2 _ H1.out H3.out HF.out).mono ?_
  rintro e w3 ⟨rfl, v3, hw3, ht3⟩
  rw [HE.out] at hw3
  have H4 := Lib.hid hw3
  have H5 := Lib.hid (H2.out.trans ht3)
  clear hw3 ht3
  go_wp2_with fail
  go_end0
  exact ⟨rfl, v3, H4.out, H5.out⟩

theorem wInt_len {x : Int} (h : I64 x) : (wInt x).length ≤ 10 := uv_len64 h.zig
theorem wIntsL_len {l : List Int} (h : ∀ x ∈ l, I64 x) : (wIntsL l).length ≤ 10 * l.length := by
  induction l with
  | nil => simp [wIntsL]
  | cons x l ih =>
    have h1 := wInt_len (h x (List.mem_cons_self ..))
    have h2 := ih fun y hy => h y (List.mem_cons_of_mem _ hy)
    have e : (wIntsL (x :: l)).length = (wInt x).length + (wIntsL l).length := by simp [wIntsL]
    rw [e, List.length_cons]
    omega
theorem wIntsL_snoc (l : List Int) (k : Nat) (h : k < l.length) : wIntsL (l.take (k + 1)) = wIntsL (l.take k) ++ wInt l[k] := by
  unfold wIntsL
  rw [List.take_succ_eq_append_getElem h, List.flatMap_append]
  simp only [List.flatMap_cons, List.flatMap_nil, List.append_nil]


/-- a call that hands back new bytes, and writes nothing that was there. -/
def RetBytes (xs : List UInt8) (w : World) (e : Ending) (w' : World) : Prop :=
  ∃ v, e = .returned v ∧ w'.ownsRow 0 5 1 v xs.length (byts xs) ∧ (∀ k, v.ownBlock = some k → w.heap.size ≤ k) ∧ Below w.heap.size w w'
theorem bytes_end {w w1 : World} {v1 : Value} {n : Nat} {xs : List UInt8} (hn : xs.length = n) (h1 : w1.ownsRow 0 5 1 v1 (0 + n) ([] ++ byts xs)) (hg : w.grownBy w1 none) (hat : v1.ownBlock = none ∨ v1.ownBlock = some w.heap.size) : RetBytes xs w (.returned v1) w1 := by
  refine ⟨v1, rfl, by rw [hn]; simpa using h1, fun k hk => ?_, (Frm.of_grown (F := fun _ => False) hg (fun i hi => by cases hi)).below (Nat.le_refl _) (fun _ _ g => g)⟩
  rcases hat with e | e
  · rw [e] at hk; cases hk
  · rw [e] at hk
    injection hk with hk
    omega
set_option maxRecDepth 100000 in
set_option maxHeartbeats 1000000 in
theorem wbytes_any (p : Nat) (v : Value) (xs : List UInt8) (w : World) (hw : Wr 70 w p v xs) (hl : Fit xs.length) :
    Calls Try.prog 26 #[.pointer (some ⟨p, 0, none⟩)] w (RetBytes xs w) := by
  obtain ⟨hb, hown⟩ := hw
  obtain ⟨A, c, rfl, hs⟩ := own_form hown
  have hc : w.cell? ⟨p, 0, none⟩ = some (.slice A xs.length c) := hb.cell 0
  obtain ⟨i0, hi0, hz0, hz1, hz2⟩ := info_parts u8_info
  have HS := Lib.hid hs
  clear hb hown hs
  go_enter Try.func26, Try.ntmps26
  go_wp2_with (at_builtin; refine wpList_append_sl _ rfl (.const (.slice none 0 0)) (.tmp 8) 38 rfl 5 i0 (.int .u8 0) 1 1 Try.underlying38 hi0 hz0 hz1 hz2 rfl (by decide) (.slice none 0 0) 0 [] rfl (World.ownsRow_nil _ _ _ _) A xs.length c (byts xs) rfl HS.out (byts_one _) (by have := hl.le; unfold maxLen; omega) (by have := hl.le; omega) ?_; intro v1 w1 hown1 hg1 hat1; have H1 := Lib.hid hown1; have H2 := Lib.hid hg1; have H3 := Lib.hid hat1; clear hown1 hg1 hat1)
  go_ret
  exact bytes_end rfl H1.out H2.out H3.out

theorem newWriter_any (w : World) : Calls Try.prog 46 #[] w fun e w' => ∃ g, e = .returned (.pointer (some ⟨g, 0, none⟩)) ∧ w.heap.size ≤ g ∧ Wr 70 w' g (.slice none 0 0) [] ∧ Below w.heap.size w w' := by
  go_enter Try.func46, Try.ntmps46
  go_wp2
  go_ret
  exact ⟨_, rfl, Nat.le_refl _, ⟨Blk.new _ _ _, World.ownsRow_nil _ _ _ _⟩, (Below.refl _ _).alloc (Nat.le_refl _) _⟩
end Go.Proofs.Ytjnaooiklcbemaa.Wr
