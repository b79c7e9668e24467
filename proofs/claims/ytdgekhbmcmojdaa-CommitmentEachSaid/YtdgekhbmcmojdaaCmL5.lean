/-
  The law CommitmentEach: the walk. Conditions: the list lies in memory.
-/
import Derived.Test.YtdgekhbmcmojdaaCmRun
import Derived.Test.YtdgekhbmcmojdaaDgWalks
import Derived.Test.YtdgekhbmcmojdaaCmL4
import Derived.Test.YtdgekhbmcmojdaaApp
namespace Go.Proofs.Ytdgekhbmcmojdaa.Cm
open Go.RowKit Go.Proofs.Ytdgekhbmcmojdaa.Mem Go.Proofs.Ytdgekhbmcmojdaa.Dg Go.Proofs.Ytdgekhbmcmojdaa.Mp
theorem u64_info : (Try.prog.info? 22).map (fun i => (i.zero, i.size, i.bytes)) = some (some (.int .u64 0), 1, 8) := by kernel_rfl
theorem u64s_one (l : List Int) : ∀ u ∈ u64s l, u.oneCell' = true := by
  intro u hu
  obtain ⟨x, _, rfl⟩ := List.mem_map.1 hu
  rfl
/-- n truth values, the first i of them true. -/
def bt (n i : Nat) : Array Value := ((List.range n).map fun j => Value.bool (decide (j < i))).toArray
def tr (n : Nat) : List Bool := (List.range n).map fun j => decide (j < n)
theorem bt_at {n i j : Nat} (h : j < n) : (bt n i)[j]? = some (.bool (decide (j < i))) := by
  unfold bt
  rw [List.getElem?_toArray, List.getElem?_map, List.getElem?_range h]
  rfl
theorem bt_set {n i : Nat} (_h : i < n) : (bt n i).setIfInBounds i (.bool true) = bt n (i + 1) := by
  unfold bt
  rw [List.setIfInBounds_toArray]
  congr 1
  apply List.ext_getElem
  · simp
  · intro j h1 h2
    rw [List.getElem_set]
    simp only [List.getElem_map, List.getElem_range]
    split
    · rename_i e
      subst e
      simp
    · rename_i e
      congr 1
      simp only [decide_eq_decide]
      omega
theorem tr_at {n k : Nat} (h : k < n) : fo (tr n) k = true := by
  unfold fo tr
  rw [List.getElem?_map, List.getElem?_range h]
  simp [h]
theorem tr_any {n : Nat} (h : 1 ≤ n) : anyP (fo (tr n)) n = true := (anyP_iff _ _).2 ⟨0, by omega, tr_at (by omega)⟩
theorem mk_bools (W : World) (n : Nat) (h1 : 1 ≤ n) (h8 : n ≤ 8) : (Instr.makeSlice 52 (.int .i64 (n : Int)) (.int .i64 (n : Int))).run Try.prog W = .ok (.slice (some ⟨W.heap.size, 0, none⟩) n n) (W.alloc (.cells (bt n 0) 4)) := by
  rcases (by omega : n = 1 ∨ n = 2 ∨ n = 3 ∨ n = 4 ∨ n = 5 ∨ n = 6 ∨ n = 7 ∨ n = 8) with rfl | rfl | rfl | rfl | rfl | rfl | rfl | rfl <;> kernel_rfl
/-- the two rows that the law makes. -/
structure Ea (w W : World) (g3 g4 : Nat) (arr cur : Array Value) : Prop where
  a : Blk W g3 4 arr
  b : Blk W g4 22 cur
  ne : g4 ≠ g3
  l3 : w.heap.size ≤ g3
  l4 : w.heap.size ≤ g4
  old : Below w.heap.size w W
section
variable {w W W' : World} {g3 g4 : Nat} {arr cur : Array Value}
theorem Ea.below (h : Ea w W g3 g4 arr cur) (hb : Below W.heap.size W W') : Ea w W' g3 g4 arr cur :=
  ⟨h.a.below hb h.a.lt, h.b.below hb h.b.lt, h.ne, h.l3, h.l4, h.old.trans (hb.mono h.old.size)⟩
theorem Ea.set3 (h : Ea w W g3 g4 arr cur) (i : Nat) (u : Value) : Ea w (W.setCell ⟨g3, i, none⟩ u) g3 g4 (arr.setIfInBounds i u) cur :=
  ⟨h.a.put i u, h.b.far h.ne u, h.ne, h.l3, h.l4, h.old.trans (((Frm.refl (· = g3) W).setCell (p := ⟨g3, i, none⟩) (fun _ => rfl) u).below h.old.size fun k hk e => by have := h.l3; omega)⟩
theorem Ea.set4 (h : Ea w W g3 g4 arr cur) (i : Nat) (u : Value) : Ea w (W.setCell ⟨g4, i, none⟩ u) g3 g4 arr (cur.setIfInBounds i u) :=
  ⟨h.a.far (fun e => h.ne e.symm) u, h.b.put i u, h.ne, h.l3, h.l4, h.old.trans (((Frm.refl (· = g4) W).setCell (p := ⟨g4, i, none⟩) (fun _ => rfl) u).below h.old.size fun k hk e => by have := h.l4; omega)⟩
theorem Ea.sl3 {n : Nat} (h : Ea w W g3 g4 (bt n n) cur) : Sl W 1 (some ⟨g3, 0, none⟩) n (bools (tr n)) :=
  ⟨by simp [bools, tr], fun _ => ⟨g3, 0, rfl, fun j u hu => by
    rw [Nat.zero_add]
    refine (h.a.cell j).trans ?_
    rw [← hu]
    unfold bt bools tr
    rw [List.getElem?_toArray, List.map_map]
    rfl⟩⟩
theorem Ea.sl4 {n : Nat} {ys : List Int} (h : Ea w W g3 g4 arr cur) (hl : ys.length = n) (ht : cur.toList.take n = u64s ys) : Sl W 1 (some ⟨g4, 0, none⟩) n (u64s ys) :=
  ⟨by simp [u64s, hl], fun _ => ⟨g4, 0, rfl, fun j u hu => by
    rw [Nat.zero_add]
    refine (h.b.cell j).trans ?_
    rw [← hu, ← ht]
    have hj : j < n := by
      have := (List.getElem?_eq_some_iff.1 hu).1
      simpa [u64s, hl] using this
    rw [List.getElem?_take, if_pos hj, Array.getElem?_toList]⟩⟩
end
theorem each_app {w w1 : World} {n : Nat} {xs : List Int} {v1 : Value} {o2 : Obj} {arr : Array Value} (h1 : 1 ≤ n) (hown : w1.ownsRow 0 22 1 v1 n (u64s xs)) (hg : ((w.alloc (.cells arr 4)).alloc o2).grownBy w1 (some (w.heap.size + 1)))
    (hat : v1.ownBlock = some (w.heap.size + 1) ∨ v1.ownBlock = some ((w.alloc (.cells arr 4)).alloc o2).heap.size) : ∃ g4 cap cur, v1 = .slice (some ⟨g4, 0, none⟩) n cap ∧ Ea w w1 w.heap.size g4 arr cur ∧ cur.toList.take n = u64s xs := by
  rcases hown.2 with ⟨_, e⟩ | ⟨g, cap, cur, rfl, _, hb, _, _, _, ht⟩
  · omega
  · have ka : Blk w1 w.heap.size 4 arr := Blk.grown ((Blk.new w 4 arr).alloc o2) hg (fun e => by injection e with e; omega)
    have kb : Blk w1 g 22 cur := hb
    have hge : w.heap.size ≤ g := by
      rcases hat with h | h
      · injection h with h
        show _ ≤ g
        have : g = w.heap.size + 1 := h
        omega
      · injection h with h
        have : g = ((w.alloc (.cells arr 4)).alloc o2).heap.size := h
        simp at this
        omega
    have hf : Frm (fun i => i = w.heap.size + 1) w w1 := ((Frm.refl (fun i => i = w.heap.size + 1) w).alloc (.cells arr 4) |>.alloc o2).trans (Frm.of_grown hg fun i hi => by injection hi with hi; exact hi.symm) (fun _ _ h => h)
    exact ⟨g, cap, cur, rfl, ⟨ka, kb, kb.apart ka (by decide), Nat.le_refl _, hge, hf.below (Nat.le_refl _) fun i hi e => by omega⟩, by rw [Nat.mul_one] at ht; exact ht⟩
/-- another value in one place. -/
def oth (xs : List Int) (r : Nat) (t : Int) : List Int := xs.set r (bits .xor .u64 (fv xs r) t)
theorem oth_len (xs : List Int) (r : Nat) (t : Int) : (oth xs r t).length = xs.length := by simp [oth]
theorem oth_take {cur : Array Value} {n r : Nat} {xs : List Int} {t : Int} (h : cur.toList.take n = u64s xs) : (cur.setIfInBounds r (.int .u64 (bits .xor .u64 (fv xs r) t))).toList.take n = u64s (oth xs r t) := by
  rw [Array.toList_setIfInBounds, List.take_set, h]
  unfold u64s oth
  rw [List.map_set]
theorem oth_at {xs : List Int} {r : Nat} {t : Int} (h : r < xs.length) : fv (oth xs r t) r = bits .xor .u64 (fv xs r) t := by
  unfold oth fv
  rw [List.getElem?_set_self h]
  rfl
theorem oth_ne {xs : List Int} {r i : Nat} {t : Int} (h : i ≠ r) : fv xs i = fv (oth xs r t) i := by
  unfold oth fv
  rw [List.getElem?_set_ne (fun e => h e.symm)]
theorem oth_u64 {xs : List Int} {r : Nat} {t : Int} (h : ∀ z ∈ xs, U64 z) : ∀ z ∈ oth xs r t, U64 z := fun z hz => by
  rcases List.mem_or_eq_of_mem_set hz with h2 | h2
  · exact h z h2
  · rw [h2]
    exact xor_is_u64 _ _
theorem each_iff {xs : List Int} {n r : Nat} {t : Int} (hl : xs.length = n) (hu : ∀ z ∈ xs, U64 z) (ht : U64 t) (hr : r < n) : (seedP (fv xs) (fo (tr n)) n = seedP (fv (oth xs r t)) (fo (tr n)) n) ↔ t = 0 := by
  rw [seedP_apart (fv_u64 hu) (fv_u64 (oth_u64 hu)) (tr_at hr) (fun i hi => oth_ne hi) n hr, oth_at (by omega)]
  exact ⟨fun h => (xor_self_iff (fv_u64 hu r) ht).1 h.symm, fun h => ((xor_self_iff (fv_u64 hu r) ht).2 h).symm⟩
set_option maxRecDepth 100000 in
set_option maxHeartbeats 8000000 in
theorem each_some (xs : List Int) (A : Option Addr) (n c z : Nat) (t : Int) (w : World) (hs : Sl w 1 A n (u64s xs)) (hu : ∀ z ∈ xs, U64 z) (h1 : 1 ≤ n) (h8 : n ≤ 8) (hz : z < 256) (ht : U64 t) :
    Calls Try.prog 7 #[.slice A n c, .int .u8 (z : Int), .int .u64 t] w fun e w' => e = .returned (.bool true) ∧ Below w.heap.size w w' := by
  obtain ⟨i0, hi0, hz0, hz1, hz2⟩ := info_parts u64_info
  have HS := Lib.hid hs
  have hl : xs.length = n := by have := hs.1; simpa [u64s] using this
  obtain ⟨r, ⟨hr1, hr2⟩, hr⟩ := mod_small (z := z) h1
  obtain ⟨q, hq⟩ : ∃ q, decide (t = 0) = q := ⟨_, rfl⟩
  have hq2 : (t == 0) = q := hq
  obtain ⟨S1, hS1⟩ : ∃ S1, seedP (fv xs) (fo (tr n)) n = S1 := ⟨_, rfl⟩
  obtain ⟨S2, hS2⟩ : ∃ S2, seedP (fv (oth xs r t)) (fo (tr n)) n = S2 := ⟨_, rfl⟩
  have hq1 : (S1 == S2) = q := by
    rw [← hq, ← hS1, ← hS2]
    show decide _ = decide _
    simp only [decide_eq_decide]
    exact each_iff hl hu ht hr
  have R1 : Hid (∀ (W : World) (B : Option Addr) (c2 : Nat), Sl W 1 A n (u64s xs) → Sl W 1 B n (bools (tr n)) → Calls Try.prog 28 #[.slice A n c, .slice B n c2, .int .i64 0] W fun e w' => e = .returned (.tuple #[.int .u64 S1, .int .i64 0]) ∧ Below W.heap.size W w') := Lib.hid (fun W B c2 ha hb => by
    have := run_any xs (tr n) A B n c n c2 0 W ha hb hu h1 h8 (by omega)
    unfold runS runE at this
    rw [tr_any h1, hS1] at this
    exact this)
  have R2 : Hid (∀ (W : World) (A B : Option Addr) (c c2 : Nat), Sl W 1 A n (u64s (oth xs r t)) → Sl W 1 B n (bools (tr n)) → Calls Try.prog 28 #[.slice A n c, .slice B n c2, .int .i64 0] W fun e w' => e = .returned (.tuple #[.int .u64 S2, .int .i64 0]) ∧ Below W.heap.size W w') := Lib.hid (fun W A B c c2 ha hb => by
    have := run_any (oth xs r t) (tr n) A B n c n c2 0 W ha hb (oth_u64 hu) h1 h8 (by omega)
    unfold runS runE at this
    rw [tr_any h1, hS2] at this
    exact this)
  have HL := Lib.hid hl
  have H1 := Lib.hid h1
  have HR := Lib.hid hr
  have hmk := fun W => mk_bools W n h1 h8
  have HO : Hid (∀ cs : Array Value, cs.size = 0 → ((w.alloc (.cells (bt n 0) 4)).alloc (.cells cs 22)).ownsRow 0 22 1 (.slice (some ⟨w.heap.size + 1, 0, none⟩) 0 0) 0 []) := fun cs h => by
    have := World.ownsRow_made (e := 22) (size := 1) (base := 0) (w.alloc (.cells (bt n 0) 4)) cs 0 (Nat.zero_le _) (Nat.zero_le _) h
    simpa using this
  have n1 : decide ((n : Int) < 1) = false := by simp; omega
  have n8 : decide ((8 : Int) < (n : Int)) = false := by simp; omega
  have n1' : (1 : Int) ≤ (n : Int) := by omega
  have n8' : (n : Int) ≤ 8 := by omega
  have hn0 : (n : Int) ≠ 0 := by omega
  have wz : wrap64 (z : Int) = (z : Int) := IntWalk.wrap64_in _ ⟨by omega, by omega⟩
  have hri : (r : Int) < (n : Int) := by omega
  have hr0 : (0 : Int) ≤ (r : Int) := by omega
  clear hs hu hl hq hS1 hS2 ht hz
  go_enter Try.func7, Try.ntmps7
  go_wp2_with (at_builtin; refine wpList_append_sl _ rfl (.tmp 27) (.tmp 28) 51 rfl 22 i0 (.int .u64 0) 1 8 Try.underlying51 hi0 hz0 hz1 hz2 rfl (by decide) (.slice (some ⟨w.heap.size + 1, 0, none⟩) 0 0) 0 [] rfl (HO.out _ rfl) A n c (u64s xs) rfl ((HS.out.alloc _).alloc _) (u64s_one _) (by unfold maxLen; omega) (by omega) ?_; intro v1 w1 hown1 hg1 hat1; rw [Nat.zero_add, List.nil_append] at hown1; obtain ⟨g4, cap, cur, rfl, he, htk⟩ := each_app h1 hown1 hg1 hat1; have E1 := Lib.hid he; have T1 := Lib.hid htk; clear hown1 hg1 hat1 he htk hmk h1 h8)
  go_loopw [9] (fun j wr => ∃ i : Nat, i ≤ n ∧ j = .int .i64 i ∧ Hid (Ea w wr w.heap.size g4 (bt n i) cur)) (fun j _ => n - (intOf j).toNat)
  case atStart => exact ⟨0, by omega, rfl, E1⟩
  case round =>
    obtain ⟨i, hi, rfl, HE⟩ := hrel
    by_cases hlt : i < n
    · have hlti : (i : Int) < (n : Int) := by omega
      have h0i : (0 : Int) ≤ (i : Int) := by omega
      have qc : wr.cell? ⟨w.heap.size, i, none⟩ = some (.bool (decide (i < i))) := (HE.out.a.cell i).trans (bt_at hlt)
      have qf := HE.out.a.frozen i
      have HE2 : Hid (Ea w (wr.setCell ⟨w.heap.size, i, none⟩ (.bool true)) w.heap.size g4 (bt n (i + 1)) cur) := Lib.hid (by rw [← bt_set hlt]; exact HE.out.set3 i _)
      clear hr1 hr2 hq1 hq2
      go_wp2_with fail
      go_roundw
      case rel => exact ⟨i + 1, by omega, by go_num, HE2⟩
      case measure => simp [intOf]; omega
    · obtain rfl : i = n := by omega
      have q4 := u64s_at (HE.out.sl4 HL.out T1.out) HR.out
      obtain ⟨b4, o4, e4, q4⟩ := q4
      injection e4 with e4
      injection e4 with e4 e5
      subst e4 e5
      rw [Nat.zero_add] at q4
      have qf := HE.out.b.frozen r
      have HE2 : Hid (Ea w (wr.setCell ⟨g4, r, none⟩ (.int .u64 (bits .xor .u64 (fv xs r) t))) w.heap.size g4 (bt i i) (cur.setIfInBounds r (.int .u64 (bits .xor .u64 (fv xs r) t)))) := Lib.hid (HE.out.set4 r _)
      have T2 := Lib.hid (oth_take (r := r) (t := t) T1.out)
      clear E1
      go_wp2_with fail
      generalize wr.setCell ⟨g4, r, none⟩ (.int .u64 (bits .xor .u64 (fv xs r) t)) = W5 at *
      refine (R1.out _ _ _ (HS.out.below HE2.out.old (Nat.le_refl _)) HE2.out.sl3).mono ?_
      rintro e v2 ⟨rfl, b2⟩
      have HE3 := Lib.hid (HE2.out.below b2)
      clear b2 HE2
      go_wp2_with fail
      refine (R2.out _ _ _ _ _ (HE3.out.sl4 (by rw [oth_len]; exact HL.out) T2.out) HE3.out.sl3).mono ?_
      rintro e v3 ⟨rfl, b3⟩
      have B3 := Lib.hid (HE3.out.old.trans (b3.mono HE3.out.old.size))
      clear b3 HE3
      go_wp2_with fail
      refine (awake27 _).mono ?_
      rintro e vz ⟨rfl, bz⟩
      have BZ := Lib.hid (B3.out.trans (bz.mono B3.out.size))
      clear bz
      go_wp2_with fail
      go_ret
      exact ⟨rfl, BZ.out⟩
set_option maxRecDepth 100000 in
set_option maxHeartbeats 8000000 in
theorem each_walk (xs : List Int) (A : Option Addr) (n c z : Nat) (t : Int) (w : World) (hs : Sl w 1 A n (u64s xs)) (hu : ∀ z ∈ xs, U64 z) (hz : z < 256) (ht : U64 t) :
    Calls Try.prog 7 #[.slice A n c, .int .u8 (z : Int), .int .u64 t] w fun e w' => e = .returned (.bool true) ∧ Below w.heap.size w w' := by
  by_cases h1 : 1 ≤ n
  · by_cases h8 : n ≤ 8
    · exact each_some xs A n c z t w hs hu h1 h8 hz ht
    · have n1 : decide ((n : Int) < 1) = false := by simp; omega
      have n8 : decide ((8 : Int) < (n : Int)) = true := by simp; omega
      have n8' : (8 : Int) < (n : Int) := by omega
      have n1' : (1 : Int) ≤ (n : Int) := by omega
      clear hs hu h1 h8 hz
      have B0 : Hid (Below w.heap.size w w) := Lib.hid (Below.refl _ _)
      go_enter Try.func7, Try.ntmps7
      go_wp2_with fail
      refine (awake27 _).mono ?_
      rintro e vz ⟨rfl, bz⟩
      have BZ := Lib.hid (B0.out.trans (bz.mono B0.out.size))
      clear bz
      go_wp2_with fail
      go_ret
      exact ⟨rfl, BZ.out⟩
  · obtain rfl : n = 0 := by omega
    clear hs hu h1 hz
    have B0 : Hid (Below w.heap.size w w) := Lib.hid (Below.refl _ _)
    go_enter Try.func7, Try.ntmps7
    go_wp2_with fail
    refine (awake27 _).mono ?_
    rintro e vz ⟨rfl, bz⟩
    have BZ := Lib.hid (B0.out.trans (bz.mono B0.out.size))
    clear bz
    go_wp2_with fail
    go_ret
    exact ⟨rfl, BZ.out⟩
end Go.Proofs.Ytdgekhbmcmojdaa.Cm
