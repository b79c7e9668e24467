/-
  The walk of wire's Next. Conditions: the bytes lie in memory; sizes that a machine holds.
-/
import Derived.Test.YthpmngdpgniehaaFr
namespace Go.Proofs.Ythpmngdpgniehaa.Wr
open Go.RowKit Go.Proofs.Ythpmngdpgniehaa.Mem
attribute [local go_sem ↓] exec_cut

/-- a result of Next, as its three values. -/
def nres : Except Int (List UInt8 × Nat) → List UInt8 × Nat × Int
  | .error x => ([], 0, x)
  | .ok (l, m) => (l, m, 0)
def NextPost (r : List UInt8 × Nat × Int) (w : World) (e : Ending) (w' : World) : Prop :=
  ∃ v, e = .returned (.tuple #[v, .int .i64 (r.2.1 : Int), .int .i64 r.2.2]) ∧ w'.ownsRow 0 5 1 v r.1.length (byts r.1) ∧ (∀ k, v.ownBlock = some k → w.heap.size ≤ k) ∧ Below w.heap.size w w'
theorem next_none {w : World} {r : List UInt8 × Nat × Int} (x : Int) (h : r = ([], 0, x)) {w' : World} (hb : Below w.heap.size w w') : NextPost r w (.returned (.tuple #[.slice none 0 0, .int .i64 0, .int .i64 x])) w' := by
  subst h
  exact ⟨_, rfl, World.ownsRow_nil _ _ _ _, (fun k hk => by cases hk), hb⟩
theorem next_out {b : List UInt8} {p : Int} (h : p < 0 ∨ (b.length : Int) < p) : next b p = .error 2 := by unfold next; rw [if_pos h]
theorem or_byte (y d : Nat) (hy : y < 256 ^ 7) (hd : d < 256) (z : Int) (hz : z = (d : Int)) : bits .or .u64 (IntKind.u64.wrap ((y : Int) * 256)) z = ((y * 256 + d : Nat) : Int) := by
  have e : IntKind.u64.wrap ((y : Int) * 256) = ((y * 256 : Nat) : Int) := by rw [IntKind.wrap_u64]; omega
  rw [e, hz, u64_or_nat _ _ (by omega) (by omega), nat_join 8 _ _ (by omega) (by omega)]
theorem unbig_take {l : List UInt8} {k : Nat} (h : k < l.length) : unbig (l.take (k + 1)) = unbig (l.take k) * 256 + l[k].toNat := by
  unfold unbig
  rw [List.take_succ_eq_append_getElem h, unbigG_snoc]
theorem unbig_take_lt (l : List UInt8) {k : Nat} (h : k < 8) : unbig (l.take k) < 256 ^ 7 := by
  refine Nat.lt_of_lt_of_le (unbigG_lt (l.take k)) (Nat.pow_le_pow_right (by decide) ?_)
  have := List.length_take_le k l
  omega
theorem nextB_short {b : List UInt8} {fr n : Nat} (h : b.length - fr < 8 ∨ b.length - fr - 8 < n) : nextB b fr n = .error 28 := by unfold nextB; rw [if_pos h]
theorem nextB_bad {b : List UInt8} {fr n : Nat} (h : ¬ (b.length - fr < 8 ∨ b.length - fr - 8 < n)) (h2 : ¬ unbig ((b.drop (fr + n)).take 8) = sumN ((b.drop fr).take n)) : nextB b fr n = .error 27 := by unfold nextB; rw [if_neg h, if_neg h2]
theorem nextB_good {b : List UInt8} {fr n : Nat} (h : ¬ (b.length - fr < 8 ∨ b.length - fr - 8 < n)) (h2 : unbig ((b.drop (fr + n)).take 8) = sumN ((b.drop fr).take n)) : nextB b fr n = .ok ((b.drop fr).take n, fr + n + 8) := by unfold nextB; rw [if_neg h, if_pos h2]

set_option maxRecDepth 100000 in
set_option maxHeartbeats 2000000 in
theorem next_bad (b : List UInt8) (A : Option Addr) (n c : Nat) (p : Int) (w : World) (hs : Sl w 1 A n (byts b)) (hp : p < 0 ∨ (n : Int) < p) :
    Calls Try.prog 69 #[.slice A n c, .int .i64 p] w (NextPost (nres (next b p)) w) := by
  have LN : b.length = n := by simpa [byts_len] using hs.1
  have HR : Hid (nres (next b p) = ([], 0, 2)) := by show _ = _; rw [next_out (by rw [LN]; exact hp)]; rfl
  clear hs LN
  by_cases h0 : p < 0
  · clear hp
    go_enter Try.func69, Try.ntmps69
    go_wp2_with fail
    go_ret3
    exact next_none 2 HR.out (Below.refl _ _)
  · have h1 : (n : Int) < p := by omega
    clear hp
    go_enter Try.func69, Try.ntmps69
    go_wp2_with fail
    go_ret3
    exact next_none 2 HR.out (Below.refl _ _)

set_option maxRecDepth 100000 in
set_option maxHeartbeats 4000000 in
theorem next_in (b : List UInt8) (A : Option Addr) (n c p : Nat) (w : World) (hs : Sl w 1 A n (byts b)) (hn : n ≤ 1000000000) (hc : n ≤ c) (hcm : c ≤ 9223372036854775807) (hp : p ≤ n) :
    Calls Try.prog 69 #[.slice A n c, .int .i64 (p : Int)] w (NextPost (nres (nextN b p)) w) := by
  have LN : b.length = n := by simpa [byts_len] using hs.1
  obtain ⟨i0, hi0, hz0, hz1, hz2⟩ := info_parts u8_info
  have CV := Lib.hid (varint_any b p n c A w hs hp (by omega))
  have HS := Lib.hid hs
  clear hs
  cases hv : vt 0 (b.drop p) with
  | error x =>
    have HR : Hid (nres (nextN b p) = ([], 0, x)) := by show _ = _; rw [nextN_err hv]; rfl
    have hx := vt_err _ _ _ hv
    have tx : (x != 0) = true := by simp; omega
    have HV : Hid (vres b p = (0, 0, x)) := by unfold vres; rw [hv]; rfl
    clear hv hx LN
    go_enter Try.func69, Try.ntmps69
    go_wp2_with fail
    refine CV.out.mono ?_
    rintro e w' ⟨rfl, rfl⟩
    rw [HV.out]
    go_wp2_with fail
    go_ret3
    exact next_none x HR.out (Below.refl _ _)
  | ok q =>
    obtain ⟨m, k⟩ := q
    have HN := Lib.hid (nextN_ok hv)
    obtain ⟨a1, a2, a3, _, _⟩ := vt_bound _ 0 m k (by omega) hv
    rw [List.length_drop, LN] at a2
    have HV : Hid (vres b p = ((m : Int), ((p + k : Nat) : Int), 0)) := by unfold vres; rw [hv]; rfl
    have hfr : p + k ≤ n := by omega
    have H64 : Hid (N64 m) := a3
    have LH := Lib.hid LN
    clear hv a1 a2 a3 LN
    generalize p + k = fr at *
    by_cases h8 : n - fr < 8 ∨ n - fr - 8 < m
    · have HR : Hid (nres (nextN b p) = ([], 0, 28)) := by show _ = _; rw [HN.out, nextB_short (by rw [LH.out]; exact h8)]; rfl
      by_cases h9 : n - fr < 8
      · have hl8 : (n : Int) - (fr : Int) < 8 := by omega
        clear h8 h9
        go_enter Try.func69, Try.ntmps69
        go_wp2_with fail
        refine CV.out.mono ?_
        rintro e w' ⟨rfl, rfl⟩
        rw [HV.out]
        go_wp2_with fail
        go_ret3
        exact next_none 28 HR.out (Below.refl _ _)
      · have hl8 : (8 : Int) ≤ (n : Int) - (fr : Int) := by omega
        have hlm : (n : Int) - (fr : Int) - 8 < (m : Int) := by omega
        have hz : IntKind.u64.wrap ((n : Int) - (fr : Int) - 8) = (n : Int) - (fr : Int) - 8 := by rw [IntKind.wrap_u64]; omega
        clear h8 h9
        go_enter Try.func69, Try.ntmps69
        go_wp2_with fail
        refine CV.out.mono ?_
        rintro e w' ⟨rfl, rfl⟩
        rw [HV.out]
        go_wp2_with fail
        go_ret3
        exact next_none 28 HR.out (Below.refl _ _)
    · have hl8 : (8 : Int) ≤ (n : Int) - (fr : Int) := by omega
      have hlm : (m : Int) ≤ (n : Int) - (fr : Int) - 8 := by omega
      have hz : IntKind.u64.wrap ((n : Int) - (fr : Int) - 8) = (n : Int) - (fr : Int) - 8 := by rw [IntKind.wrap_u64]; omega
      have hto : fr + m + 8 ≤ n := by omega
      obtain ⟨A2, c2, hcut, hcs⟩ := run_cut (P := Try.prog) Try.underlying40 u8_size A n c (fr + m) (fr + m + 8) (by omega) (by omega)
      obtain ⟨A3, c3, hcut3, hcs3⟩ := run_cut (P := Try.prog) Try.underlying40 u8_size A n c fr (fr + m) (by omega) (by omega)
      have S2 : Hid (Sl w 1 A2 8 (byts ((b.drop (fr + m)).take 8))) := by
        have := hcs.cells _ _ HS.out (by omega)
        rw [show fr + m + 8 - (fr + m) = 8 from by omega, Nat.mul_one, Nat.mul_one, byts_cut] at this
        exact this
      have S3 : Hid (Sl w 1 A3 m (byts ((b.drop fr).take m))) := by
        have := hcs3.cells _ _ HS.out (by omega)
        rw [show fr + m - fr = m from by omega, Nat.mul_one, Nat.mul_one, byts_cut] at this
        exact this
      rw [show fr + m + 8 - (fr + m) = 8 from by omega, show ((fr + m : Nat) : Int) = (fr : Int) + (m : Int) from by omega, show ((fr + m + 8 : Nat) : Int) = (fr : Int) + (m : Int) + 8 from by omega] at hcut
      rw [show fr + m - fr = m from by omega, show ((fr + m : Nat) : Int) = (fr : Int) + (m : Int) from by omega] at hcut3
      have HBad := Lib.hid (fun h2 => nextB_bad (b := b) (fr := fr) (n := m) (by rw [LH.out]; exact h8) h2)
      have HGood := Lib.hid (fun h2 => nextB_good (b := b) (fr := fr) (n := m) (by rw [LH.out]; exact h8) h2)
      have L8 : Hid (((b.drop (fr + m)).take 8).length = 8) := by show _ = _; rw [List.length_take, List.length_drop, LH.out]; omega
      have LM : Hid (((b.drop fr).take m).length = m) := by show _ = _; rw [List.length_take, List.length_drop, LH.out]; omega
      have hcn := run_string_sl (P := Try.prog) (w := w) 40 9 5 Try.underlying40 Try.underlying5 Try.underlying9 S3.out c3
      generalize (b.drop (fr + m)).take 8 = d at *
      generalize (b.drop fr).take m = x at *
      have HQ : Hid ((fr : Int) + (m : Int) ≤ 1000000000) := by show _ ≤ _; omega
      clear h8 hcs hcs3
      go_enter Try.func69, Try.ntmps69
      go_wp2_with fail
      refine CV.out.mono ?_
      rintro e w' ⟨rfl, rfl⟩
      rw [HV.out]
      clear CV HV
      go_wp2_with fail
      go_loop [12, 56] (fun s i => ∃ k : Nat, k ≤ 8 ∧ i = .int .i64 k ∧ s = .int .u64 ((unbig (d.take k) : Nat) : Int)) (fun _ i => 8 - (intOf i).toNat)
      case atStart => exact ⟨0, by omega, rfl, rfl⟩
      case round =>
        obtain ⟨k, hk, rfl, rfl⟩ := hrel
        by_cases hlt : k < 8
        · have kl : k < d.length := by have := L8.out; omega
          obtain ⟨b2, o2, rfl, hc2⟩ := S2.out.open_ (by omega)
          have g := hc2 k _ (byts_at kl)
          have hlti : (k : Int) < 8 := by omega
          have h0i : (0 : Int) ≤ (k : Int) := by omega
          have hd := toNat_lt d[k]
          have HO := Lib.hid (or_byte _ d[k].toNat (unbig_take_lt d hlt) hd)
          have HT := Lib.hid (unbig_take kl)
          clear hc2
          generalize d[k].toNat = z at *
          go_wp2_with fail
          go_round
          case rel => exact ⟨k + 1, by omega, by go_num, by rw [HT.out, HO.out _ (by first | rfl | (rw [IntKind.wrap_u64]; omega))]⟩
          case measure => simp [intOf]; omega
        · obtain rfl : k = 8 := by omega
          have HT : Hid (d.take 8 = d) := List.take_of_length_le (by have := L8.out; omega)
          rw [HT.out]
          go_wp2_with fail
          clear hcn
          refine (Dg.sum_any ⟨x.toArray⟩ _ (by unfold maxLen; show x.toArray.size ≤ _; have := LM.out; simp; omega)).mono ?_
          rintro e w' ⟨rfl, rfl⟩
          rw [show Dg.sumI (⟨x.toArray⟩ : ByteArray).data.toList = (sumN x : Int) from by simp [sumI_eq]]
          by_cases he : unbig d = sumN x
          · have te : (((unbig d : Nat) : Int) != ((sumN x : Nat) : Int)) = false := by simp [he]
            have HR : Hid (nres (nextN b p) = (x, fr + m + 8, 0)) := by show _ = _; rw [HN.out, HGood.out he]; rfl
            clear he
            go_wp2_with (at_builtin; refine wpList_append_sl _ rfl (.const (.slice none 0 0)) (.tmp 77) 40 rfl 5 i0 (.int .u8 0) 1 1 Try.underlying40 hi0 hz0 hz1 hz2 rfl (by decide) (.slice none 0 0) 0 [] rfl (World.ownsRow_nil _ _ _ _) A3 m c3 (byts x) rfl S3.out (byts_one _) (by unfold maxLen; omega) (by omega) ?_; intro v1 w1 hown1 hg1 hat1; have H1 := Lib.hid hown1; have H2 := Lib.hid hg1; have H3 := Lib.hid hat1; clear hown1 hg1 hat1)
            go_ret3
            obtain ⟨v, hv1, hv2, hv3, hv4⟩ := bytes_end LM.out H1.out H2.out H3.out
            injection hv1 with hv1
            subst hv1
            rw [HR.out]
            exact ⟨_, rfl, hv2, hv3, hv4⟩
          · have te : (((unbig d : Nat) : Int) != ((sumN x : Nat) : Int)) = true := by rw [bne_iff_ne]; intro h; exact he (by omega)
            have HR : Hid (nres (nextN b p) = ([], 0, 27)) := by show _ = _; rw [HN.out, HBad.out he]; rfl
            clear he
            go_wp2_with fail
            go_ret3
            exact next_none 27 HR.out (Below.refl _ _)

theorem next_any (b : List UInt8) (A : Option Addr) (n c : Nat) (p : Int) (w : World) (hs : Sl w 1 A n (byts b)) (hn : n ≤ 1000000000) (hc : n ≤ c) (hcm : c ≤ 9223372036854775807) :
    Calls Try.prog 69 #[.slice A n c, .int .i64 p] w (NextPost (nres (next b p)) w) := by
  by_cases hp : p < 0 ∨ (n : Int) < p
  · exact next_bad b A n c p w hs hp
  · have LN : b.length = n := by simpa [byts_len] using hs.1
    obtain ⟨q, rfl⟩ : ∃ q : Nat, p = (q : Int) := ⟨p.toNat, by omega⟩
    rw [next_at (by omega)]
    exact next_in b A n c q w hs hn hc hcm (by omega)
end Go.Proofs.Ythpmngdpgniehaa.Wr
