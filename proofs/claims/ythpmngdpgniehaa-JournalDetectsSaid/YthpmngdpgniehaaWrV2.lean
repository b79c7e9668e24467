/-
  The walks of the reference's Writer, second part: Int, Text, Ints, Bytes, NewWriter. Conditions: the writer's block and its row lie in memory; sizes that a machine holds.
-/
import Derived.Test.YthpmngdpgniehaaWrV
import Derived.Test.YthpmngdpgniehaaAppS
namespace Go.Proofs.Ythpmngdpgniehaa.Wr
open Go.RowKit Go.Proofs.Ythpmngdpgniehaa.Mem

set_option maxRecDepth 100000 in
set_option maxHeartbeats 1000000 in
theorem wintR_any (p : Nat) (v : Value) (xs : List UInt8) (x : Int) (w : World) (hw : Wr 97 w p v xs) (hx : I64 x) (hl : Fit (xs.length + 10)) :
    Calls Try.prog 49 #[.pointer (some ⟨p, 0, none⟩), .int .i64 x] w (WrPost 97 p v (xs ++ wInt x) w) := by
  have HW := Lib.hid hw
  have HX := Lib.hid hx
  clear hw hx
  go_enter Try.func49, Try.ntmps49
  go_wp2_with fail
  refine (zigzagR_any x _ HX.out).mono ?_
  rintro e w' ⟨rfl, rfl⟩
  go_wp2_with fail
  refine (uintR_any p v xs (zig x) _ HW.out HX.out.zig hl).mono ?_
  rintro e w1 ⟨rfl, v1, hw1, ht1⟩
  have H1 := Lib.hid hw1
  have H2 := Lib.hid ht1
  clear hw1 ht1
  go_wp2_with fail
  go_end0
  exact ⟨rfl, v1, H1.out, H2.out⟩

/-- what a store of a row onto which was appended leaves. -/
theorem put_end' {T : TypeId} {w w1 : World} {p n : Nat} {v v1 : Value} {xs ys : List UInt8} (hn : ys.length = n) (h1 : w1.ownsRow 0 5 1 v1 (xs.length + n) (byts xs ++ byts ys)) (hg : w.grownBy w1 v.ownBlock)
    (hat : v1.ownBlock = v.ownBlock ∨ ∃ g, v1.ownBlock = some g ∧ w.heap.size ≤ g) (hb : Blk w1 p T #[v]) (hne : 5 ≠ T) : WrPost T p v (xs ++ ys) w (.returned (.tuple #[])) (w1.setCell ⟨p, 0, none⟩ v1) := by
  refine ⟨rfl, v1, ⟨hb.put 0 v1, ?_⟩, (Frm.of_grown hg fun i hi => .inr hi).setCell (fun _ => .inl rfl) _, fun k hk => ?_⟩
  · rw [List.length_append, hn, byts_append]
    refine own_frm h1 ((Frm.refl (· = p) w1).setCell (fun _ => rfl) _) fun k hk e => ?_
    exact own_apart h1 hb hne (by rw [hk, e])
  · rcases hat with e | ⟨g, e, hg⟩
    · exact .inl (by rw [← e]; exact hk)
    · rw [e] at hk
      injection hk with hk
      exact .inr (by omega)

set_option maxRecDepth 100000 in
set_option maxHeartbeats 1000000 in
theorem wtextR_any (p : Nat) (v : Value) (xs : List UInt8) (s : ByteArray) (w : World) (hw : Wr 97 w p v xs) (hs : s.size ≤ 1000000000) (hl : Fit (xs.length + 10 + s.size)) :
    Calls Try.prog 50 #[.pointer (some ⟨p, 0, none⟩), .string s] w (WrPost 97 p v (xs ++ wText s.data.toList) w) := by
  obtain ⟨i0, hi0, hz0, hz1, hz2⟩ := info_parts u8_info
  have HW := Lib.hid hw
  have HN : Hid (N64 s.size) := by unfold N64; show _ < _; omega
  have HE : Hid ((xs ++ uv s.size) ++ s.data.toList = xs ++ wText s.data.toList) := by
    show _ = _
    rw [wText, List.append_assoc]
    rfl
  have HF : Hid ((xs ++ uv s.size).length + s.size ≤ 100000000000) := by
    have := uv_len64 HN.out
    have := hl.le
    show _ ≤ _
    rw [List.length_append]
    omega
  clear hw
  go_enter Try.func50, Try.ntmps50
  go_wp2_with fail
  refine (uintR_any p v xs s.size _ HW.out HN.out (hl.of (by omega))).mono ?_
  rintro e w1 ⟨rfl, v1, hw1, ht1⟩
  obtain ⟨hb1, hown1⟩ := hw1
  have HA := Lib.hid (own_apart hown1 hb1 (by decide))
  have hc : w1.cell? ⟨p, 0, none⟩ = some v1 := hb1.cell 0
  have HB := Lib.hid hb1
  have H2 := Lib.hid ht1
  clear hb1 ht1
  go_wp2_with (at_builtin; refine wpList_append_str _ rfl (.tmp 13) (.tmp 14) 40 9 rfl 5 i0 Try.underlying40 Try.underlying9 hi0 hz0 hz1 hz2 v1 (xs ++ uv s.size).length (byts (xs ++ uv s.size)) rfl hown1 s rfl HF.out ?_; intro v3 w3 hown3 hg3 hat3; obtain ⟨A3, c3, rfl, hs3⟩ := own_form hown3; have hb3 := HB.out.grown hg3 HA.out; have q3 : w3.cell? ⟨p, 0, none⟩ = some v1 := hb3.cell 0; have f3 := hb3.frozen 0; have G1 := Lib.hid hown3; have G2 := Lib.hid hg3; have G3 := Lib.hid hat3; have G4 := Lib.hid hb3; clear hown3 hg3 hat3 hb3 hs3)
  go_end0
  obtain ⟨_, v4, hw4, ht4⟩ := put_end' (xs := xs ++ uv s.size) (ys := s.data.toList) rfl G1.out G2.out G3.out G4.out (by decide)
  rw [HE.out] at hw4
  rw [List.length_append] at hw4 ht4
  exact ⟨rfl, v4, hw4, H2.out.trans ht4⟩

set_option maxRecDepth 100000 in
set_option maxHeartbeats 1000000 in
theorem wintsR_any (p : Nat) (v : Value) (xs : List UInt8) (l : List Int) (A : Option Addr) (n c : Nat) (w : World) (hw : Wr 97 w p v xs) (hs : Sl w 1 A n (ints l)) (hd : 0 < n → ∀ a, A = some a → ¬ own p v a.block) (hI : ∀ x ∈ l, I64 x)
    (hn : n ≤ 1000000000) (hl : Fit (xs.length + 10 + 10 * l.length)) :
    Calls Try.prog 51 #[.pointer (some ⟨p, 0, none⟩), .slice A n c] w (WrPost 97 p v (xs ++ wInts l) w) := by
  have HW := Lib.hid hw
  have LN : Hid (l.length = n) := by show _ = _; simpa [ints_len] using hs.1
  have HN : Hid (N64 n) := by unfold N64; show _ < _; omega
  have HS := Lib.hid hs
  have HD := Lib.hid hd
  have HI := Lib.hid hI
  clear hw hs hd hI
  go_enter Try.func51, Try.ntmps51
  go_wp2_with fail
  refine (uintR_any p v xs n _ HW.out HN.out (hl.of (by omega))).mono ?_
  rintro e w1 ⟨rfl, v1, hw1, ht1⟩
  have H1 := Lib.hid hw1
  have H2 := Lib.hid ht1
  clear hw1 ht1
  go_wp2_with fail
  go_loopw [4] (fun i wr => ∃ (k : Nat) (u : Value) (ys : List UInt8), k ≤ n ∧ i = .int .i64 k ∧ Wr 97 wr p u ys ∧ WrTo p v u w wr ∧ Hid (ys = xs ++ (uv n ++ wIntsL (l.take k)))) (fun i _ => n - (intOf i).toNat)
  case atStart => exact ⟨0, v1, _, by omega, rfl, H1.out, H2.out, by show _ = _; simp [wIntsL]⟩
  case round =>
    obtain ⟨k, u, ys, hk, rfl, hw2, ht2, HE⟩ := hrel
    have K1 := Lib.hid hw2
    have K2 := Lib.hid ht2
    clear hw2 ht2
    by_cases hlt : k < n
    · have kl : k < l.length := by have := LN.out; omega
      have S2 := HS.out.frm K2.out.1 (HD.out (by omega))
      obtain ⟨b, o, rfl, hc⟩ := S2.open_ (by omega)
      have g := hc k _ (ints_at kl)
      have hlti : (k : Int) < (n : Int) := by omega
      have h0i : (0 : Int) ≤ (k : Int) := by omega
      have HX := Lib.hid (HI.out l[k] (List.getElem_mem kl))
      have HE2 : Hid (ys ++ wInt l[k] = xs ++ (uv n ++ wIntsL (l.take (k + 1)))) := by
        show _ = _
        rw [HE.out, wIntsL_snoc l k kl]
        simp
      have HF : Hid (Fit (ys.length + 10)) := by
        refine hl.of ?_
        rw [HE.out, List.length_append, List.length_append]
        have h1 := uv_len64 HN.out
        have h2 := wIntsL_len (l := l.take k) fun y hy => HI.out y (List.mem_of_mem_take hy)
        rw [List.length_take] at h2
        omega
      clear hc S2
      generalize l[k] = x at *
      go_wp2_with fail
      refine (wintR_any p u ys x _ K1.out HX.out HF.out).mono ?_
      rintro e w3 ⟨rfl, v3, hw3, ht3⟩
      have H4 := Lib.hid hw3
      have H5 := Lib.hid (K2.out.trans ht3)
      clear hw3 ht3
      go_wp2_with fail
      go_roundw
      case rel => exact ⟨k + 1, v3, _, by omega, by go_num, H4.out, H5.out, HE2⟩
      case measure => simp [intOf]; omega
    · obtain rfl : k = n := by omega
      have HE2 : Hid (ys = xs ++ wInts l) := by
        show _ = _
        rw [HE.out, List.take_of_length_le (by have := LN.out; omega), wInts, LN.out]
      go_wp2_with fail
      go_end0
      exact ⟨rfl, u, by rw [← HE2.out]; exact K1.out, K2.out⟩

theorem bytesR_end {w w1 : World} {v1 : Value} {n : Nat} {xs : List UInt8} {o : Obj} (hn : xs.length = n) (h1 : w1.ownsRow 0 5 1 v1 (0 + n) ([] ++ byts xs)) (hg : (w.alloc o).grownBy w1 (some w.heap.size)) (hat : v1.ownBlock = some w.heap.size ∨ v1.ownBlock = some (w.alloc o).heap.size) : RetBytes xs w (.returned v1) w1 := by
  refine ⟨v1, rfl, by rw [hn]; simpa using h1, fun k hk => ?_, ?_⟩
  · rcases hat with e | e
    · rw [e] at hk
      injection hk with hk
      omega
    · rw [e] at hk
      injection hk with hk
      simp at hk
      omega
  · exact ((Below.refl w.heap.size w).alloc (Nat.le_refl _) o).grown hg (by simp) (fun j hj => by injection hj with hj; omega)
set_option maxRecDepth 100000 in
set_option maxHeartbeats 1000000 in
theorem wbytesR_any (p : Nat) (v : Value) (xs : List UInt8) (w : World) (hw : Wr 97 w p v xs) (hl : Fit xs.length) :
    Calls Try.prog 53 #[.pointer (some ⟨p, 0, none⟩)] w (RetBytes xs w) := by
  have hlt := hw.1.lt
  obtain ⟨hb, hown⟩ := hw
  obtain ⟨A, c, rfl, hs⟩ := own_form hown
  have hc : w.cell? ⟨p, 0, none⟩ = some (.slice A xs.length c) := hb.cell 0
  obtain ⟨i0, hi0, hz0, hz1, hz2⟩ := info_parts u8_info
  have HS := Lib.hid hs
  have HO : Hid (∀ cs : Array Value, cs.size = 0 → (w.alloc (.cells cs 5)).ownsRow 0 5 1 (.slice (some ⟨w.heap.size, 0, none⟩) 0 0) 0 []) := fun cs h => World.ownsRow_made w cs 0 (Nat.zero_le _) (Nat.zero_le _) h
  clear hb hown hs
  go_enter Try.func53, Try.ntmps53
  go_wp2_with (at_builtin; refine wpList_append_sl _ rfl (.tmp 3) (.tmp 7) 40 rfl 5 i0 (.int .u8 0) 1 1 Try.underlying40 hi0 hz0 hz1 hz2 rfl (by decide) (.slice (some ⟨w.heap.size, 0, none⟩) 0 0) 0 [] rfl (HO.out _ rfl) A xs.length c (byts xs) rfl (HS.out.alloc _) (byts_one _) (by have := hl.le; unfold maxLen; omega) (by have := hl.le; omega) ?_; intro v1 w1 hown1 hg1 hat1; have H1 := Lib.hid hown1; have H2 := Lib.hid hg1; have H3 := Lib.hid hat1; clear hown1 hg1 hat1)
  go_ret
  exact bytesR_end rfl H1.out H2.out H3.out

theorem newWriterR_any (w : World) : Calls Try.prog 48 #[] w fun e w' => ∃ g, e = .returned (.pointer (some ⟨g, 0, none⟩)) ∧ w.heap.size ≤ g ∧ Wr 97 w' g (.slice none 0 0) [] ∧ Below w.heap.size w w' := by
  go_enter Try.func48, Try.ntmps48
  go_wp2
  go_ret
  exact ⟨_, rfl, Nat.le_refl _, ⟨Blk.new _ _ _, World.ownsRow_nil _ _ _ _⟩, (Below.refl _ _).alloc (Nat.le_refl _) _⟩
end Go.Proofs.Ythpmngdpgniehaa.Wr
