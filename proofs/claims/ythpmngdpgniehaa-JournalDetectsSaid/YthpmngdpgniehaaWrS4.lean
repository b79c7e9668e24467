/-
  The walks of the reference's Reader, fourth part: Ints, NewReader. Conditions: the reader's block and its bytes lie in memory.
-/
import Derived.Test.YthpmngdpgniehaaWrS3
namespace Go.Proofs.Ythpmngdpgniehaa.Wr
open Go.RowKit Go.Proofs.Ythpmngdpgniehaa.Mem

/-- what a round of the reference's Ints has come to. -/
def IntsRel (p : Nat) (A : Option Addr) (bs : List UInt8) (q : Nat) (R : List Int × RS) (n k : Nat) (w : World) (v : Value) (wr : World) (a : List Int) (st : RS) : Prop :=
  wr.ownsRow 0 3 1 v a.length (ints a) ∧ (∀ j, v.ownBlock = some j → w.heap.size ≤ j) ∧ Rd 105 wr p A bs st ∧ Frm (· = p) w wr ∧
    ((st.err = 0 ∧ k ≤ n ∧ (n : Int) ≤ 9223372036854775807 ∧ rLsofar bs (n - k) a st = R ∧ a.length + q ≤ st.pos) ∨ (st.err ≠ 0 ∧ R = ([], st)))
theorem rdOwnR {w wr w1 : World} {p : Nat} {A : Option Addr} {bs : List UInt8} {s st : RS} {row : Option Nat} (h : Rd 105 w p A bs s) (h2 : Rd 105 wr p A bs st) (hv : ∀ j, row = some j → w.heap.size ≤ j) (hg : wr.grownBy w1 row) : Rd 105 w1 p A bs st :=
  h2.keep (Frm.of_grown (F := fun k => row = some k) hg fun i hi => hi) fun k hk g => by
    have := hv k g
    have := h.rown_lt hk
    omega
set_option maxRecDepth 100000 in
set_option maxHeartbeats 4000000 in
theorem rintsR_any (p : Nat) (A : Option Addr) (bs : List UInt8) (most : Int) (s : RS) (w : World) (h : Rd 105 w p A bs s) (hm : I64 most) :
    Calls Try.prog 65 #[.pointer (some ⟨p, 0, none⟩), .int .i64 most] w (RdIntsPost 105 p A bs (rIs bs most s).1 (rIs bs most s).2 w) := by
  have H := Lib.hid h
  have HF := Lib.hid (rLen_fine most h.ok)
  have HM := Lib.hid hm
  have R0 := Lib.hid (@rIs_shut bs most s)
  have R1 := Lib.hid (@rIs_open bs most s)
  obtain ⟨i0, hi0, hz0, hz1, hz2⟩ := info_parts int_info
  clear h hm
  go_enter Try.func65, Try.ntmps65
  go_wp2_with fail
  refine (rlenR_any p A bs most s _ H.out HM.out).mono ?_
  rintro e w1 ⟨rfl, h1, f1⟩
  have H1 := Lib.hid h1
  have F1 := Lib.hid f1
  clear h1 f1
  generalize rLen bs most s = r at *
  obtain ⟨n, s2⟩ := r
  have HD : Hid ((s2.err = 0 ∧ 0 ≤ n ∧ (n : Int) ≤ 9223372036854775807 ∧ rLsofar bs (n - 0) [] s2 = rIs bs most s ∧ ([] : List Int).length + s2.pos ≤ s2.pos) ∨ (s2.err ≠ 0 ∧ rIs bs most s = ([], s2))) := by
    by_cases he : s2.err = 0
    · have h1 : (n : Int) ≤ max most 0 := (HF.out.2.2.2 he).2.2
      have h2 := HM.out.2
      exact .inl ⟨he, Nat.zero_le _, by omega, by rw [Nat.sub_zero, R1.out he]; exact rLsofar_start H1.out.ok he, by simp⟩
    · exact .inr ⟨he, R0.out he⟩
  have HR0 := H1.out.ok
  generalize rIs bs most s = R at *
  clear HR0 R0 R1
  go_wp2_with fail
  go_loopw [6, 7] (fun v i wr => ∃ (k : Nat) (a : List Int) (st : RS), i = .int .u64 (k : Int) ∧ Hid (IntsRel p A bs s2.pos R n k w v wr a st)) (fun _ i _ => n - (intOf i).toNat)
  case atStart => exact ⟨0, [], s2, rfl, ⟨World.ownsRow_nil _ _ _ _, (fun j hj => by cases hj), H1.out, F1.out, HD.out⟩⟩
  case round =>
    obtain ⟨k, a, st, rfl, HREL⟩ := hrel
    obtain ⟨hown, hfr, hrd, hf, hdis⟩ := HREL.out
    have K1 := Lib.hid hown
    have K2 := Lib.hid hfr
    have K3 := Lib.hid hrd
    have K5 := Lib.hid hf
    obtain ⟨⟨c, hb, _⟩, hrest⟩ := hrd
    have q2 : wr.cell? ⟨p, 2, none⟩ = some (.int .i64 st.err) := hb.cell 2
    clear hown hfr hf HREL hb hrest
    rcases hdis with ⟨he, hk, hn, hso, hlen⟩ | ⟨he, hR⟩
    · have te : (st.err == 0) = true := by simp [he]
      have te2 : (st.err != 0) = false := by simp [he]
      have K4 := Lib.hid he
      have K6 := Lib.hid hso
      have K7 := Lib.hid hlen
      have HN := Lib.hid hn
      clear he hso hlen hn
      by_cases hlt : k < n
      · have HSub : Hid (n - k = (n - (k + 1)) + 1) := by show _ = _; omega
        have hw1 : IntKind.u64.wrap ((k : Int) + 1) = (k : Int) + 1 := by have := HN.out; rw [IntKind.wrap_u64]; omega
        have HF2 := Lib.hid (rI_fine K3.out.ok)
        have HL : Hid (a.length + 1 ≤ 100000000001) := by
          have h6 := K7.out
          have h7 := K3.out.ok.1
          have h8 := K3.out.len
          show _ ≤ _
          omega
        go_wp2_with fail
        refine (rintR_any p A bs st _ K3.out).mono ?_
        rintro e w2 ⟨rfl, h1, f1⟩
        have HD2 : Hid (((rI bs st).2.err = 0 ∧ k + 1 ≤ n ∧ (n : Int) ≤ 9223372036854775807 ∧ rLsofar bs (n - (k + 1)) (a ++ [(rI bs st).1]) (rI bs st).2 = R ∧ (a ++ [(rI bs st).1]).length + s2.pos ≤ (rI bs st).2.pos) ∨ ((rI bs st).2.err ≠ 0 ∧ R = ([], (rI bs st).2))) := by
          by_cases he : (rI bs st).2.err = 0
          · refine .inl ⟨he, hlt, HN.out, ?_, ?_⟩
            · have := K6.out
              rw [HSub.out, rLsofar_go he] at this
              exact this
            · have h5 := (HF2.out.2.2.2 he).2
              have h6 := K7.out
              rw [List.length_append, List.length_singleton]
              omega
          · refine .inr ⟨he, ?_⟩
            have := K6.out
            rw [HSub.out, rLsofar_stop he] at this
            exact this.symm
        have G1' := Lib.hid h1
        have hownA := own_frm K1.out f1 (fun j hj e => by
          have := K2.out j hj
          have := H.out.lt
          omega)
        have F2 := Lib.hid (Frm.two K5.out f1)
        clear f1 h1
        generalize rI bs st = r at *
        obtain ⟨x, s3⟩ := r
        go_wp2_with (at_builtin; refine wpList_append_sl _ rfl (.tmp 23) (.tmp 26) 22 rfl 3 i0 (.int .i64 0) 1 8 Try.underlying22 hi0 hz0 hz1 hz2 rfl (by decide) u6 a.length (ints a) rfl (hownA.alloc _) _ 1 1 (ints [x]) rfl (one_int _ _ _ rfl) (ints_one _) (by have := HL.out; unfold maxLen; omega) (by have := HL.out; omega) ?_; intro v2 w3 hown2 hg2 hat2; have G1 := Lib.hid hown2; have G2 := Lib.hid hg2; have G3 := Lib.hid hat2; clear hown2 hg2 hat2 hownA)
        go_roundw
        case rel =>
          refine ⟨k + 1, a ++ [x], s3, by go_num, ⟨?_, fun j hj => ?_, ?_, ?_, HD2.out⟩⟩
          · rw [List.length_append, ints_append]; exact G1.out
          · rcases G3.out with e | e
            · rw [e] at hj; exact K2.out j hj
            · rw [e] at hj
              injection hj with hj
              have := F2.out.size
              simp at hj
              omega
          · exact rdOwnR H.out (G1'.out.below ((Below.refl _ _).alloc (Nat.le_refl _) _)) K2.out G2.out
          · exact (F2.out.alloc _).trans (Frm.of_grown (F := fun j => u6.ownBlock = some j) G2.out fun i hi => hi) fun i hi g => by have := K2.out i g; omega
        case measure => simp [intOf]; omega
      · obtain rfl : k = n := by omega
        have HG : Hid ((a, st) = R) := by
          have := K6.out
          rw [Nat.sub_self, rLsofar_end K4.out] at this
          exact this
        go_wp2_with fail
        go_ret
        exact ⟨_, rfl, by rw [← HG.out]; exact K1.out, K2.out, by rw [← HG.out]; exact K3.out, K5.out⟩
    · have te : (st.err == 0) = false := by simpa using he
      have te2 : (st.err != 0) = true := by simpa using he
      have HG := Lib.hid hR
      clear he hR
      by_cases hlt : k < n
      · go_wp2_with fail
        go_ret
        exact ⟨.slice none 0 0, rfl, by rw [HG.out]; exact World.ownsRow_nil _ _ _ _, (fun j hj => by cases hj), by rw [HG.out]; exact K3.out, K5.out⟩
      · go_wp2_with fail
        go_ret
        exact ⟨.slice none 0 0, rfl, by rw [HG.out]; exact World.ownsRow_nil _ _ _ _, (fun j hj => by cases hj), by rw [HG.out]; exact K3.out, K5.out⟩

set_option maxRecDepth 100000 in
set_option maxHeartbeats 1000000 in
theorem newReaderR_any (bs : List UInt8) (A : Option Addr) (n c : Nat) (w : World) (hs : Sl w 1 A n (byts bs)) (hl : n ≤ 100000000000) :
    Calls Try.prog 62 #[.slice A n c] w (NewRd 105 bs w) := by
  obtain ⟨i0, hi0, hz0, hz1, hz2⟩ := info_parts u8_info
  have LN : Hid (bs.length = n) := by show _ = _; simpa [byts_len] using hs.1
  have HS := Lib.hid hs
  have HO : Hid (∀ cs : Array Value, cs.size = 0 → (w.alloc (.cells cs 5)).ownsRow 0 5 1 (.slice (some ⟨w.heap.size, 0, none⟩) 0 0) 0 []) := fun cs h => World.ownsRow_made w cs 0 (Nat.zero_le _) (Nat.zero_le _) h
  clear hs
  go_enter Try.func62, Try.ntmps62
  go_wp2_with (at_builtin; refine wpList_append_sl _ rfl (.tmp 3) (.tmp 4) 40 rfl 5 i0 (.int .u8 0) 1 1 Try.underlying40 hi0 hz0 hz1 hz2 rfl (by decide) (.slice (some ⟨w.heap.size, 0, none⟩) 0 0) 0 [] rfl (HO.out _ rfl) A n c (byts bs) rfl (HS.out.alloc _) (byts_one _) (by unfold maxLen; omega) (by omega) ?_; intro v1 w1 hown1 hg1 hat1; obtain ⟨A1, c1, rfl, hs1⟩ := own_form hown1; have H1 := Lib.hid hown1; have H2 := Lib.hid hg1; have H3 := Lib.hid hat1; have H4 := Lib.hid hs1; clear hown1 hg1 hat1 hs1)
  go_ret
  have hlt : ∀ a, A1 = some a → a.block < w1.heap.size := fun a e => (H1.out.lt a.block (by rw [e]; rfl)).2
  have hge : ∀ a, A1 = some a → w.heap.size ≤ a.block := fun a e => by
    have h5 := H3.out
    rw [e] at h5
    rcases h5 with h5 | h5
    · injection h5 with h5
      exact Nat.le_of_eq h5.symm
    · injection h5 with h5
      simp at h5
      omega
  have hcap : n ≤ c1 ∧ c1 ≤ 9223372036854775807 := by
    rcases H1.out.2 with ⟨e, h0⟩ | ⟨g, cap, cur, e, _, _, h6, h7, _⟩
    · injection e with _ _ e3
      omega
    · injection e with _ _ e3
      unfold maxLen at h7
      omega
  have hb : Below w.heap.size w w1 := ((Below.refl w.heap.size w).alloc (Nat.le_refl _) _).grown H2.out (by simp) (fun j hj => Nat.le_of_eq (Option.some.inj hj))
  refine ⟨w1.heap.size, A1, rfl, fun k hk => ?_, ⟨⟨c1, ?_, ?_⟩, ?_, fun a e => ⟨Nat.ne_of_lt (hlt a e), by have := hlt a e; simp; omega⟩, ⟨Nat.zero_le _, by show (0 : Int) ≤ 0; omega, by show (0 : Int) ≤ 32; omega⟩, by rw [LN.out]; exact hl⟩, hb.alloc hb.size _⟩
  · rcases hk with rfl | ⟨a, e, rfl⟩
    · exact hb.size
    · exact hge a e
  · have := Blk.new w1 105 #[.slice A1 (0 + n) c1, .int .i64 0, .int .i64 0]
    rw [Nat.zero_add] at this
    rw [LN.out]
    simpa using this
  · rw [LN.out]; exact hcap
  · have h5 := H4.out
    rw [Nat.zero_add, List.nil_append] at h5
    rw [LN.out]
    exact h5.alloc _
end Go.Proofs.Ythpmngdpgniehaa.Wr
