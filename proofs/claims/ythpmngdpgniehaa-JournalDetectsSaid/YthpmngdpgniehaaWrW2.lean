/-
  The walks of wire's Writer, second part: zigzag, Int, Text, Ints, Bytes, NewWriter. Conditions: the writer's block and its row lie in memory; sizes that a machine holds.
-/
import Derived.Test.YthpmngdpgniehaaWrW
namespace Go.Proofs.Ythpmngdpgniehaa.Wr
open Go.RowKit Go.Proofs.Ythpmngdpgniehaa.Mem

/-- an int of 64 bits (the bounds are kept behind a word). -/
def I64 (x : Int) : Prop := -9223372036854775808 ≤ x ∧ x ≤ 9223372036854775807
theorem I64.zig {x : Int} (h : I64 x) : N64 (zig x) := zig_lt h.1 h.2
theorem ret_int {k : IntKind} {a b : Int} (h : a = b) : Ending.returned (.int k a) = .returned (.int k b) := by rw [h]
theorem zig_neg {x : Int} (h : I64 x) (hx : x < 0) : bits .or .u64 (IntKind.u64.wrap (IntKind.u64.wrap (wrap64 (-wrap64 (x + 1))) * 2)) 1 = (zig x : Int) := by
  obtain ⟨h1, h2⟩ := h
  have e : IntKind.u64.wrap (IntKind.u64.wrap (wrap64 (-wrap64 (x + 1))) * 2) = (((-(x + 1)).toNat * 2 : Nat) : Int) := by
    rw [IntWalk.wrap64_in (x + 1) ⟨by omega, by omega⟩, IntWalk.wrap64_in (-(x + 1)) ⟨by omega, by omega⟩, IntKind.wrap_u64, IntKind.wrap_u64]
    omega
  have e2 := u64_or_nat ((-(x + 1)).toNat * 2) 1 (by omega) (by decide)
  rw [e]
  refine e2.trans ?_
  rw [nat_join 1 _ _ (by omega) (by decide), zig, if_pos hx]
  omega
theorem zig_pos {x : Int} (h : I64 x) (hx : 0 ≤ x) : IntKind.u64.wrap (IntKind.u64.wrap x * 2) = (zig x : Int) := by
  obtain ⟨h1, h2⟩ := h
  rw [IntKind.wrap_u64, IntKind.wrap_u64, zig, if_neg (by omega)]
  omega
set_option maxRecDepth 100000 in
set_option maxHeartbeats 1000000 in
theorem zigzag_any (x : Int) (w : World) (hx : I64 x) : Calls Try.prog 80 #[.int .i64 x] w fun e w' => e = .returned (.int .u64 (zig x : Int)) ∧ w = w' := by
  have HX := Lib.hid hx
  clear hx
  by_cases h : x < 0
  · go_enter Try.func80, Try.ntmps80
    go_wp2
    go_ret
    exact ⟨ret_int (zig_neg HX.out h), rfl⟩
  · go_enter Try.func80, Try.ntmps80
    go_wp2
    go_ret
    exact ⟨ret_int (zig_pos HX.out h), rfl⟩

set_option maxRecDepth 100000 in
set_option maxHeartbeats 1000000 in
theorem wint_any (p : Nat) (v : Value) (xs : List UInt8) (x : Int) (w : World) (hw : Wr 93 w p v xs) (hx : I64 x) (hl : Fit (xs.length + 10)) :
    Calls Try.prog 43 #[.pointer (some ⟨p, 0, none⟩), .int .i64 x] w (WrPost 93 p v (xs ++ wInt x) w) := by
  have HW := Lib.hid hw
  have HX := Lib.hid hx
  clear hw hx
  go_enter Try.func43, Try.ntmps43
  go_wp2_with fail
  refine (zigzag_any x _ HX.out).mono ?_
  rintro e w' ⟨rfl, rfl⟩
  go_wp2_with fail
  refine (uint_any p v xs (zig x) _ HW.out HX.out.zig hl).mono ?_
  rintro e w1 ⟨rfl, v1, hw1, ht1⟩
  have H1 := Lib.hid hw1
  have H2 := Lib.hid ht1
  clear hw1 ht1
  go_wp2_with fail
  go_end0
  exact ⟨rfl, v1, H1.out, H2.out⟩

theorem Wr.below {T : TypeId} {w w' : World} {p : Nat} {v : Value} {xs : List UInt8} (h : Wr T w p v xs) (hb : Below w.heap.size w w') : Wr T w' p v xs :=
  h.keep (F := fun _ => False) (Frm.of_below hb fun i hi hg => by omega) fun _ _ g => g
theorem WrTo.further {p : Nat} {v v' : Value} {w w' w'' : World} (h : WrTo p v v' w w') (hb : Below w'.heap.size w' w'') : WrTo p v v' w w'' :=
  h.trans ⟨Frm.of_below hb fun i hi hg => by omega, fun _ hk => .inl hk⟩

set_option maxRecDepth 100000 in
set_option maxHeartbeats 1000000 in
theorem wtext_any (p : Nat) (v : Value) (xs : List UInt8) (s : ByteArray) (w : World) (hw : Wr 93 w p v xs) (hs : s.size ≤ 1000000000) (hl : Fit (xs.length + 10 + s.size)) :
    Calls Try.prog 44 #[.pointer (some ⟨p, 0, none⟩), .string s] w (WrPost 93 p v (xs ++ wText s.data.toList) w) := by
  have HW := Lib.hid hw
  have HN : Hid (N64 s.size) := by unfold N64; show _ < _; omega
  have HE : Hid ((xs ++ uv s.size) ++ s.data.toList = xs ++ wText s.data.toList) := by
    show _ = _
    rw [wText, List.append_assoc]
    rfl
  have HF : Hid (Fit ((xs ++ uv s.size).length + s.data.toList.length)) := by
    have := uv_len64 HN.out
    refine hl.of ?_
    rw [List.length_append]
    show _ + s.size ≤ _
    omega
  clear hw
  go_enter Try.func44, Try.ntmps44
  go_wp2_with fail
  refine (uint_any p v xs s.size _ HW.out HN.out (hl.of (by omega))).mono ?_
  rintro e w1 ⟨rfl, v1, hw1, ht1⟩
  obtain ⟨A2, c2, w2, hr2, hs2, hb2⟩ := run_bytes_sl (P := Try.prog) w1 9 40 5 s Try.underlying9 Try.underlying40 Try.underlying5
  have H1 := Lib.hid (hw1.below hb2)
  have H2 := Lib.hid (ht1.further hb2)
  have H3 := Lib.hid hs2
  clear hw1 ht1 hs2 hb2
  go_wp2_with fail
  clear hr2
  refine (put_any p v1 (xs ++ uv s.size) s.data.toList A2 s.size c2 _ H1.out H3.out HF.out).mono ?_
  rintro e w3 ⟨rfl, v3, hw3, ht3⟩
  rw [HE.out] at hw3
  have H4 := Lib.hid hw3
  have H5 := Lib.hid (H2.out.trans ht3)
  clear hw3 ht3
  go_wp2_with fail
  go_end0
  exact ⟨rfl, v3, H4.out, H5.out⟩

theorem wInt_len {x : Int} (h : I64 x) : (wInt x).length ≤ 10 := uv_len64 h.zig
theorem wIntsL_len {l : List Int} (h : ∀ x ∈ l, I64 x) : (wIntsL l).length ≤ 10 * l.length := by
  induction l with
  | nil => simp [wIntsL]
  | cons x l ih =>
    have h1 := wInt_len (h x (List.mem_cons_self ..))
    have h2 := ih fun y hy => h y (List.mem_cons_of_mem _ hy)
    have e : (wIntsL (x :: l)).length = (wInt x).length + (wIntsL l).length := by simp [wIntsL]
    rw [e, List.length_cons]
    omega
theorem wIntsL_snoc (l : List Int) (k : Nat) (h : k < l.length) : wIntsL (l.take (k + 1)) = wIntsL (l.take k) ++ wInt l[k] := by
  unfold wIntsL
  rw [List.take_succ_eq_append_getElem h, List.flatMap_append]
  simp only [List.flatMap_cons, List.flatMap_nil, List.append_nil]

set_option maxRecDepth 100000 in
set_option maxHeartbeats 1000000 in
theorem wints_any (p : Nat) (v : Value) (xs : List UInt8) (l : List Int) (A : Option Addr) (n c : Nat) (w : World) (hw : Wr 93 w p v xs) (hs : Sl w 1 A n (ints l)) (hd : 0 < n → ∀ a, A = some a → ¬ own p v a.block) (hI : ∀ x ∈ l, I64 x)
    (hn : n ≤ 1000000000) (hl : Fit (xs.length + 10 + 10 * l.length)) :
    Calls Try.prog 45 #[.pointer (some ⟨p, 0, none⟩), .slice A n c] w (WrPost 93 p v (xs ++ wInts l) w) := by
  have HW := Lib.hid hw
  have LN : Hid (l.length = n) := by show _ = _; simpa [ints_len] using hs.1
  have HN : Hid (N64 n) := by unfold N64; show _ < _; omega
  have HS := Lib.hid hs
  have HD := Lib.hid hd
  have HI := Lib.hid hI
  clear hw hs hd hI
  go_enter Try.func45, Try.ntmps45
  go_wp2_with fail
  refine (uint_any p v xs n _ HW.out HN.out (hl.of (by omega))).mono ?_
  rintro e w1 ⟨rfl, v1, hw1, ht1⟩
  have H1 := Lib.hid hw1
  have H2 := Lib.hid ht1
  clear hw1 ht1
  go_wp2_with fail
  go_loopw [15] (fun i wr => ∃ (k : Nat) (u : Value) (ys : List UInt8), k ≤ n ∧ i = .int .i64 k ∧ Wr 93 wr p u ys ∧ WrTo p v u w wr ∧ Hid (ys = xs ++ (uv n ++ wIntsL (l.take k)))) (fun i _ => n - (intOf i).toNat)
  case atStart => exact ⟨0, v1, _, by omega, rfl, H1.out, H2.out, by show _ = _; simp [wIntsL]⟩
  case round =>
    obtain ⟨k, u, ys, hk, rfl, hw2, ht2, HE⟩ := hrel
    have K1 := Lib.hid hw2
    have K2 := Lib.hid ht2
    clear hw2 ht2
    by_cases hlt : k < n
    · have kl : k < l.length := by have := LN.out; omega
      have S2 := HS.out.frm K2.out.1 (HD.out (by omega))
      obtain ⟨b, o, rfl, hc⟩ := S2.open_ (by omega)
      have g := hc k _ (ints_at kl)
      have hlti : (k : Int) < (n : Int) := by omega
      have h0i : (0 : Int) ≤ (k : Int) := by omega
      have HX := Lib.hid (HI.out l[k] (List.getElem_mem kl))
      have HE2 : Hid (ys ++ wInt l[k] = xs ++ (uv n ++ wIntsL (l.take (k + 1)))) := by
        show _ = _
        rw [HE.out, wIntsL_snoc l k kl]
        simp
      have HF : Hid (Fit (ys.length + 10)) := by
        refine hl.of ?_
        rw [HE.out, List.length_append, List.length_append]
        have h1 := uv_len64 HN.out
        have h2 := wIntsL_len (l := l.take k) fun y hy => HI.out y (List.mem_of_mem_take hy)
        rw [List.length_take] at h2
        omega
      clear hc S2
      generalize l[k] = x at *
      go_wp2_with fail
      refine (wint_any p u ys x _ K1.out HX.out HF.out).mono ?_
      rintro e w3 ⟨rfl, v3, hw3, ht3⟩
      have H4 := Lib.hid hw3
      have H5 := Lib.hid (K2.out.trans ht3)
      clear hw3 ht3
      go_wp2_with fail
      go_roundw
      case rel => exact ⟨k + 1, v3, _, by omega, by go_num, H4.out, H5.out, HE2⟩
      case measure => simp [intOf]; omega
    · obtain rfl : k = n := by omega
      have HE2 : Hid (ys = xs ++ wInts l) := by
        show _ = _
        rw [HE.out, List.take_of_length_le (by have := LN.out; omega), wInts, LN.out]
      go_wp2_with fail
      go_end0
      exact ⟨rfl, u, by rw [← HE2.out]; exact K1.out, K2.out⟩

/-- a call that hands back new bytes, and writes nothing that was there. -/
def RetBytes (xs : List UInt8) (w : World) (e : Ending) (w' : World) : Prop :=
  ∃ v, e = .returned v ∧ w'.ownsRow 0 5 1 v xs.length (byts xs) ∧ (∀ k, v.ownBlock = some k → w.heap.size ≤ k) ∧ Below w.heap.size w w'
theorem bytes_end {w w1 : World} {v1 : Value} {n : Nat} {xs : List UInt8} (hn : xs.length = n) (h1 : w1.ownsRow 0 5 1 v1 (0 + n) ([] ++ byts xs)) (hg : w.grownBy w1 none) (hat : v1.ownBlock = none ∨ v1.ownBlock = some w.heap.size) : RetBytes xs w (.returned v1) w1 := by
  refine ⟨v1, rfl, by rw [hn]; simpa using h1, fun k hk => ?_, (Frm.of_grown (F := fun _ => False) hg (fun i hi => by cases hi)).below (Nat.le_refl _) (fun _ _ g => g)⟩
  rcases hat with e | e
  · rw [e] at hk; cases hk
  · rw [e] at hk
    injection hk with hk
    omega
set_option maxRecDepth 100000 in
set_option maxHeartbeats 1000000 in
theorem wbytes_any (p : Nat) (v : Value) (xs : List UInt8) (w : World) (hw : Wr 93 w p v xs) (hl : Fit xs.length) :
    Calls Try.prog 47 #[.pointer (some ⟨p, 0, none⟩)] w (RetBytes xs w) := by
  obtain ⟨hb, hown⟩ := hw
  obtain ⟨A, c, rfl, hs⟩ := own_form hown
  have hc : w.cell? ⟨p, 0, none⟩ = some (.slice A xs.length c) := hb.cell 0
  obtain ⟨i0, hi0, hz0, hz1, hz2⟩ := info_parts u8_info
  have HS := Lib.hid hs
  clear hb hown hs
  go_enter Try.func47, Try.ntmps47
  go_wp2_with (at_builtin; refine wpList_append_sl _ rfl (.const (.slice none 0 0)) (.tmp 8) 40 rfl 5 i0 (.int .u8 0) 1 1 Try.underlying40 hi0 hz0 hz1 hz2 rfl (by decide) (.slice none 0 0) 0 [] rfl (World.ownsRow_nil _ _ _ _) A xs.length c (byts xs) rfl HS.out (byts_one _) (by have := hl.le; unfold maxLen; omega) (by have := hl.le; omega) ?_; intro v1 w1 hown1 hg1 hat1; have H1 := Lib.hid hown1; have H2 := Lib.hid hg1; have H3 := Lib.hid hat1; clear hown1 hg1 hat1)
  go_ret
  exact bytes_end rfl H1.out H2.out H3.out

theorem newWriter_any (w : World) : Calls Try.prog 42 #[] w fun e w' => ∃ g, e = .returned (.pointer (some ⟨g, 0, none⟩)) ∧ w.heap.size ≤ g ∧ Wr 93 w' g (.slice none 0 0) [] ∧ Below w.heap.size w w' := by
  go_enter Try.func42, Try.ntmps42
  go_wp2
  go_ret
  exact ⟨_, rfl, Nat.le_refl _, ⟨Blk.new _ _ _, World.ownsRow_nil _ _ _ _⟩, (Below.refl _ _).alloc (Nat.le_refl _) _⟩
end Go.Proofs.Ythpmngdpgniehaa.Wr
