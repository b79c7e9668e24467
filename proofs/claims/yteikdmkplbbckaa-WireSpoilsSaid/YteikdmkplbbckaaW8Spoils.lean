/-
  The walk of WireSpoils: it returns true, and changes nothing that was there. Conditions: the bytes lie in memory.
-/
import Derived.Test.YteikdmkplbbckaaW8Awake
namespace Go.Proofs.Yteikdmkplbbckaa.Wr
open Go.RowKit Go.Proofs.Yteikdmkplbbckaa.Mem Go.Proofs.Yteikdmkplbbckaa.Eqs

theorem byts_set (l : List UInt8) (j : Nat) (c : UInt8) : (byts l).set j (.int .u8 (c.toNat : Int)) = byts (l.set j c) := by
  unfold byts
  rw [List.map_set]
/-- the plain side of a spoilt frame: what Next says of it. -/
theorem spoilt_res {b : List UInt8} (hb : b.length < 18446744073709551616) {j : Nat} (hj : j < b.length + 8) {c : UInt8} {d : UInt8} (hd : (frame b)[(uv b.length).length + j]? = some d) :
    nres (next ((frame b).set ((uv b.length).length + j) c) 0) = if d = c then (b, (frame b).length, 0) else ([], 0, 27) := by
  rw [spoilt hb hj, hd]
  by_cases h : d = c
  · rw [if_pos h, if_pos (by rw [h])]; rfl
  · rw [if_neg h, if_neg (fun e => h (by injection e))]; rfl
set_option maxRecDepth 100000 in
set_option maxHeartbeats 8000000 in
theorem spoils_walk (b : List UInt8) (A : Option Addr) (n c : Nat) (at_ : Nat) (ch : UInt8) (w : World) (hs : Sl w 1 A n (byts b)) (hat : at_ < 65536) :
    Calls Try.prog 9 #[.slice A n c, .int .u16 (at_ : Int), .int .u8 (ch.toNat : Int)] w fun e w' => e = .returned (.bool true) ∧ Below w.heap.size w w' := by
  obtain ⟨i0, hi0, hz0, hz1, hz2⟩ := info_parts u8_info
  have LN : b.length = n := by simpa [byts_len] using hs.1
  have HS := Lib.hid hs
  clear hs
  by_cases hn : n ≤ 5000
  · have hni : (n : Int) ≤ 5000 := by omega
    have HFL : Hid ((frame b).length = (uv n).length + n + 8) := by show _ = _; rw [frame_len, LN]
    have HU : Hid ((uv n).length ≤ 10 ∧ 0 < (uv n).length) := ⟨uv_len64 (by omega), uv_pos n⟩
    have HO : Hid (∀ cs : Array Value, cs.size = 0 → (w.alloc (.cells cs 5)).ownsRow 0 5 1 (.slice (some ⟨w.heap.size, 0, none⟩) 0 0) 0 []) := fun cs h => World.ownsRow_made w cs 0 (Nat.zero_le _) (Nat.zero_le _) h
    have HLN := Lib.hid LN
    clear LN
    go_enter Try.func9, Try.ntmps9
    go_wp2_with fail
    refine (frame_any b A n c _ (by exact HS.out.alloc _) (by omega)).mono ?_
    rintro e w1 ⟨v1, rfl, o1, f1, b1⟩
    obtain ⟨A1, c1, rfl, s1⟩ := own_form o1
    have S1 := Lib.hid s1
    have B1 : Hid (Below w.heap.size w w1) := ((Below.refl _ w).alloc (Nat.le_refl _) _).trans (b1.mono (by simp))
    have O1 : Hid (w1.ownsRow 0 5 1 (.slice (some ⟨w.heap.size, 0, none⟩) 0 0) 0 []) := own_frm (HO.out _ rfl) (Frm.of_below (F := fun _ => False) b1 (fun i hi hg => by omega)) (fun _ _ g => g)
    clear o1 f1 b1 s1
    have hf1 : ((frame b).length : Int) ≤ (n : Int) + 18 := by have := HFL.out; have := HU.out.1; omega
    have hf2 : (n : Int) + 9 ≤ ((frame b).length : Int) := by have := HFL.out; have := HU.out.2; omega
    have hmod : at_ % (n + 8) < n + 8 := Nat.mod_lt _ (by omega)
    have hmi : (at_ : Int) % ((n : Int) + 8) = ((at_ % (n + 8) : Nat) : Int) := by rw [Int.natCast_emod, Int.natCast_add]; rfl
    obtain ⟨j, hj⟩ : ∃ j, j = at_ % (n + 8) := ⟨_, rfl⟩
    rw [← hj] at hmod hmi
    have HI : Hid ((frame b).length - n - 8 + j = (uv n).length + j) := by show _ = _; have := HFL.out; omega
    have hil : (frame b).length - n - 8 + j < (frame b).length := by have := HFL.out; omega
    have HD := Lib.hid (List.getElem?_eq_getElem hil)
    generalize (frame b)[(frame b).length - n - 8 + j] = d at *
    clear hj
    go_wp2_with (at_builtin; refine wpList_append_sl _ rfl (.tmp 18) (.tmp 20) 38 rfl 5 i0 (.int .u8 0) 1 1 Try.underlying38 hi0 hz0 hz1 hz2 rfl (by decide) (.slice (some ⟨w.heap.size, 0, none⟩) 0 0) 0 [] rfl O1.out A1 (frame b).length c1 (byts (frame b)) rfl S1.out (byts_one _) (by unfold maxLen; omega) (by omega) ?_; intro v2 w2 hown2 hg2 hat2; rw [Nat.zero_add, List.nil_append] at hown2; obtain ⟨g, cap, hv2⟩ : ∃ g cap, v2 = .slice (some ⟨g, 0, none⟩) (frame b).length cap := (by rcases hown2.2 with ⟨_, h0⟩ | ⟨g, cap, cur, e, _⟩; exact absurd h0 (by omega); exact ⟨g, cap, e⟩); subst hv2; have q1 : w2.cell? ⟨g, (frame b).length - n - 8 + j, none⟩ = some (.int .u8 (d.toNat : Int)) := (by have := hown2.cells (g := g) rfl ((frame b).length - n - 8 + j) _ (show (byts (frame b))[(frame b).length - n - 8 + j]? = some (.int .u8 (d.toNat : Int)) from (by unfold byts; rw [List.getElem?_map, HD.out]; rfl)); rw [Addr.add_lit, Nat.zero_add] at this; exact this); have G1 := Lib.hid hown2; have G2 := Lib.hid hg2; have G3 := Lib.hid hat2; have f1 : w2.frozen? ⟨g, (frame b).length - n - 8 + j, none⟩ = false := (by rcases hown2.2 with ⟨h0, _⟩ | ⟨g', cap', cur, e, _, hgg, _⟩; cases h0; injection e with e1 _ _; injection e1 with e1; injection e1 with e1; subst e1; simp [World.frozen?, hgg]); clear hown2 hg2 hat2)
    have HNX := Lib.hid (spoilt_res (b := b) (by have := HLN.out; omega) (j := j) (by have := HLN.out; omega) (c := ch) (d := d) (by rw [HLN.out, ← HI.out]; exact HD.out))
    rw [HLN.out, ← HI.out] at HNX
    have J1 := Lib.hid (G1.out.stored ((frame b).length - n - 8 + j) (.int .u8 (ch.toNat : Int)))
    have B2 : Hid (Below w.heap.size w w2) := B1.out.grown G2.out B1.out.size (fun k hk => Nat.le_of_eq (Option.some.inj hk))
    have HGE : Hid (w.heap.size ≤ g) := by
      rcases G3.out with e | e
      · exact Nat.le_of_eq (Option.some.inj e).symm
      · have h5 : g = w1.heap.size := Option.some.inj e
        have := B1.out.size
        show _ ≤ _
        omega
    have B3 : Hid (Below w.heap.size w (w2.setCell ⟨g, (frame b).length - n - 8 + j, none⟩ (.int .u8 (ch.toNat : Int)))) := B2.out.setCell (p := ⟨g, _, none⟩) HGE.out _
    have HCap := Lib.hid (own_cap G1.out)
    have hfl : (frame b).length ≤ 6000 := by omega
    have SN : Hid (Sl (w2.setCell ⟨g, (frame b).length - n - 8 + j, none⟩ (.int .u8 (ch.toNat : Int))) 1 (some ⟨g, 0, none⟩) (frame b).length (byts ((frame b).set ((frame b).length - n - 8 + j) ch))) := by
      have h5 := Sl.of_own J1.out.1
      rw [byts_set] at h5
      exact h5
    clear q1 f1 G1 G2 G3 J1 hil hf1 hf2 hmod hmi
    generalize w2.setCell ⟨g, (frame b).length - n - 8 + j, none⟩ (.int .u8 (ch.toNat : Int)) = w3 at *
    refine (next_any ((frame b).set ((frame b).length - n - 8 + j) ch) _ (frame b).length cap 0 _ SN.out (by omega) HCap.out.1 HCap.out.2).mono ?_
    rw [HNX.out]
    rintro e w4 ⟨v4, rfl, o4, f4, b4⟩
    obtain ⟨A4, c4, rfl, s4⟩ := own_form o4
    have B4 := Lib.hid (B3.out.trans (b4.mono B3.out.size))
    by_cases hd : d = ch
    · subst hd
      rw [if_pos rfl] at s4 ⊢
      have k1 : (convert 38 9 (.slice A4 b.length c4)).run Try.prog w4 = .ok (.string ⟨b.toArray⟩) w4 := run_string_sl (P := Try.prog) 38 9 5 Try.underlying38 Try.underlying5 Try.underlying9 s4 c4
      have k2 := run_string_sl (P := Try.prog) 38 9 5 Try.underlying38 Try.underlying5 Try.underlying9 (HS.out.below B4.out (Nat.le_refl _)) c
      clear o4 f4 b4 s4
      go_wp2_with fail
      refine (awake8 _).mono ?_
      rintro e w5 ⟨rfl, b5⟩
      have B5 := Lib.hid (B4.out.trans (b5.mono B4.out.size))
      clear b5 k1 k2
      go_wp2_with fail
      go_ret
      exact ⟨rfl, B5.out⟩
    · rw [if_neg hd]
      have td : ((d.toNat : Int) == (ch.toNat : Int)) = false := by
        rw [beq_eq_false_iff_ne]
        intro h
        exact hd (UInt8.toNat_inj.1 (by omega))
      clear o4 f4 b4 s4 hd
      go_wp2_with fail
      refine (awake8 _).mono ?_
      rintro e w5 ⟨rfl, b5⟩
      have B5 := Lib.hid (B4.out.trans (b5.mono B4.out.size))
      clear b5
      go_wp2_with fail
      go_ret
      exact ⟨rfl, B5.out⟩
  · have hni : (5000 : Int) < (n : Int) := by omega
    clear hn LN
    go_enter Try.func9, Try.ntmps9
    go_wp2_with fail
    refine (awake8 _).mono ?_
    rintro e w1 ⟨rfl, b1⟩
    have B1 := Lib.hid b1
    clear b1
    go_wp2_with fail
    go_ret
    exact ⟨rfl, B1.out⟩
end Go.Proofs.Yteikdmkplbbckaa.Wr
