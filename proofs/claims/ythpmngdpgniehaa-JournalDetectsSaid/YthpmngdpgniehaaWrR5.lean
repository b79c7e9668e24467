/-
  The walks of wire's Reader, fifth part: list, Ints, NewReader. Conditions: the reader's block and its bytes lie in memory.
-/
import Derived.Test.YthpmngdpgniehaaWrR4
namespace Go.Proofs.Ythpmngdpgniehaa.Wr
open Go.RowKit Go.Proofs.Ythpmngdpgniehaa.Mem

def RdIntsPost (T : TypeId) (p : Nat) (A : Option Addr) (bs : List UInt8) (l : List Int) (s : RS) (w : World) (e : Ending) (w' : World) : Prop :=
  ∃ v, e = .returned v ∧ w'.ownsRow 0 3 1 v l.length (ints l) ∧ (∀ k, v.ownBlock = some k → w.heap.size ≤ k) ∧ Rd T w' p A bs s ∧ Frm (· = p) w w'
theorem int_info : (Try.prog.info? 3).map (fun i => (i.zero, i.size, i.bytes)) = some (some (.int .i64 0), 1, 8) := by kernel_rfl
theorem one_int (w : World) (x : Int) (t : TypeId) {g : Nat} (hg : g = w.heap.size) : Sl (w.alloc (.cells #[.int .i64 x] t)) 1 (some ⟨g, 0, none⟩) 1 (ints [x]) :=
  ⟨rfl, fun _ => ⟨g, 0, rfl, fun j u hu => by rw [hg, World.cell?_alloc_mark]; simpa [ints] using hu⟩⟩
theorem ints_append (a b : List Int) : ints (a ++ b) = ints a ++ ints b := by simp [ints]
/-- what a round of the list's loop has come to. -/
def ListRel (p : Nat) (A : Option Addr) (bs : List UInt8) (s : RS) (R : List Int × RS) (n k : Nat) (w : World) (v : Value) (wr : World) : Prop :=
  ∃ (a : List Int) (st : RS), wr.ownsRow 0 3 1 v a.length (ints a) ∧ (∀ j, v.ownBlock = some j → w.heap.size ≤ j) ∧ Rd 99 wr p A bs st ∧ st.err = 0 ∧ Frm (· = p) w wr ∧ rLsofar bs (n - k) a st = R ∧ a.length + s.pos ≤ st.pos
theorem rdOwn {w wr w1 : World} {p : Nat} {A : Option Addr} {bs : List UInt8} {s st : RS} {row : Option Nat} (h : Rd 99 w p A bs s) (h2 : Rd 99 wr p A bs st) (hv : ∀ j, row = some j → w.heap.size ≤ j) (hg : wr.grownBy w1 row) : Rd 99 w1 p A bs st :=
  h2.keep (Frm.of_grown (F := fun k => row = some k) hg fun i hi => hi) fun k hk g => by
    have := hv k g
    have := h.rown_lt hk
    omega

set_option maxRecDepth 100000 in
set_option maxHeartbeats 4000000 in
theorem rlist_any (p : Nat) (A : Option Addr) (bs : List UInt8) (n : Nat) (s : RS) (w : World) (h : Rd 99 w p A bs s) (he : s.err = 0) (hn : (n : Int) ≤ 9223372036854775807) :
    Calls Try.prog 86 #[.pointer (some ⟨p, 0, none⟩), .int .u64 (n : Int), .func (Fn.func 56) #[.pointer (some ⟨p, 0, none⟩)] #[]] w (RdIntsPost 99 p A bs (rL bs n s).1 (rL bs n s).2 w) := by
  have H := Lib.hid h
  have HE := Lib.hid he
  have HN := Lib.hid hn
  have HS := Lib.hid (rLsofar_start (n := n) h.ok he)
  obtain ⟨i0, hi0, hz0, hz1, hz2⟩ := info_parts int_info
  generalize rL bs n s = R at *
  clear h he hn
  go_enter Try.func86, Try.ntmps86
  go_wp2_with fail
  go_loopw [7, 10] (fun v i wr => ∃ k : Nat, k ≤ n ∧ i = .int .u64 (k : Int) ∧ Hid (ListRel p A bs s R n k w v wr)) (fun _ i _ => n - (intOf i).toNat)
  case atStart => exact ⟨0, by omega, rfl, ⟨[], s, World.ownsRow_nil _ _ _ _, (fun j hj => by cases hj), H.out, HE.out, Frm.refl _ _, HS.out, by simp⟩⟩
  case round =>
    obtain ⟨k, hk, rfl, HREL⟩ := hrel
    obtain ⟨a, st, hown, hfr, hrd, hst, hf, hso, hlen⟩ := HREL.out
    have K1 := Lib.hid hown
    have K2 := Lib.hid hfr
    have K3 := Lib.hid hrd
    have K4 := Lib.hid hst
    have K5 := Lib.hid hf
    have K6 := Lib.hid hso
    have K7 := Lib.hid hlen
    clear hown hfr hrd hst hf hso hlen HREL
    by_cases hlt : k < n
    · have HSub : Hid (n - k = (n - (k + 1)) + 1) := by show _ = _; omega
      have hw1 : IntKind.u64.wrap ((k : Int) + 1) = (k : Int) + 1 := by have := HN.out; rw [IntKind.wrap_u64]; omega
      go_wp2_with fail
      refine (rint_any p A bs st _ K3.out).mono ?_
      rintro e w1 ⟨rfl, h1, f1⟩
      have HF := Lib.hid (rI_fine K3.out.ok)
      by_cases he : (rI bs st).2.err = 0
      · have HG : Hid (rLsofar bs (n - (k + 1)) (a ++ [(rI bs st).1]) (rI bs st).2 = R) := by
          have := K6.out
          rw [HSub.out, rLsofar_go he] at this
          exact this
        have HL : Hid ((a ++ [(rI bs st).1]).length + s.pos ≤ (rI bs st).2.pos ∧ (rI bs st).2.pos ≤ 100000000000) := by
          have h5 := (HF.out.2.2.2 he).2
          have h6 := K7.out
          have h7 := HF.out.1.1
          have h8 := K3.out.len
          rw [List.length_append, List.length_singleton]
          show _ ∧ _
          omega
        have H1 := Lib.hid h1
        have hE := Lib.hid he
        have hownA := own_frm K1.out f1 (fun j hj e => by
          have := K2.out j hj
          have := H.out.lt
          omega)
        have F1 := Lib.hid (Frm.two K5.out f1)
        clear f1 h1
        generalize rI bs st = r at *
        obtain ⟨x, s2⟩ := r
        go_wp2_with fail
        refine (ready_of H1.out true (by simpa using he)).mono ?_
        rintro e w' ⟨rfl, rfl⟩
        clear he
        go_wp2_with (at_builtin; refine wpList_append_sl _ rfl (.tmp 17) (.tmp 19) 22 rfl 3 i0 (.int .i64 0) 1 8 Try.underlying22 hi0 hz0 hz1 hz2 rfl (by decide) u7 a.length (ints a) rfl (hownA.alloc _) _ 1 1 (ints [x]) rfl (one_int _ _ _ rfl) (ints_one _) (by have := HL.out.1; have := HL.out.2; rw [List.length_append, List.length_singleton] at *; unfold maxLen; omega) (by have := HL.out.1; have := HL.out.2; rw [List.length_append, List.length_singleton] at *; omega) ?_; intro v2 w2 hown2 hg2 hat2; have G1 := Lib.hid hown2; have G2 := Lib.hid hg2; have G3 := Lib.hid hat2; clear hown2 hg2 hat2 hownA)
        go_roundw
        case rel =>
          refine ⟨k + 1, by omega, by go_num, ⟨a ++ [x], s2, ?_, fun j hj => ?_, ?_, hE.out, ?_, HG.out, HL.out.1⟩⟩
          · rw [List.length_append, ints_append]; exact G1.out
          · rcases G3.out with e | e
            · rw [e] at hj; exact K2.out j hj
            · rw [e] at hj
              injection hj with hj
              have := F1.out.size
              simp at hj
              omega
          · exact rdOwn H.out (H1.out.below ((Below.refl _ _).alloc (Nat.le_refl _) _)) K2.out G2.out
          · exact (F1.out.alloc _).trans (Frm.of_grown (F := fun j => u7.ownBlock = some j) G2.out fun i hi => hi) fun i hi g => by have := K2.out i g; omega
        case measure => simp [intOf]; omega
      · have HG : Hid (([], (rI bs st).2) = R) := by
          have := K6.out
          rw [HSub.out, rLsofar_stop he] at this
          exact this
        have H1 := Lib.hid h1
        have F1 := Lib.hid (Frm.two K5.out f1)
        clear f1 h1
        generalize rI bs st = r at *
        obtain ⟨x, s2⟩ := r
        go_wp2_with fail
        refine (ready_of H1.out false (by simpa using he)).mono ?_
        rintro e w' ⟨rfl, rfl⟩
        clear he
        go_wp2_with fail
        go_ret
        exact ⟨.slice none 0 0, rfl, by rw [← HG.out]; exact World.ownsRow_nil _ _ _ _, (fun j hj => by cases hj), by rw [← HG.out]; exact H1.out, F1.out⟩
    · obtain rfl : k = n := by omega
      have HG : Hid ((a, st) = R) := by
        have := K6.out
        rw [Nat.sub_self, rLsofar_end K4.out] at this
        exact this
      go_wp2_with fail
      go_ret
      exact ⟨_, rfl, by rw [← HG.out]; exact K1.out, K2.out, by rw [← HG.out]; exact K3.out, K5.out⟩

theorem rIs_shut {bs : List UInt8} {most : Int} {s : RS} (h : (rLen bs most s).2.err ≠ 0) : rIs bs most s = ([], (rLen bs most s).2) := by unfold rIs; rw [if_neg h]
theorem rIs_open {bs : List UInt8} {most : Int} {s : RS} (h : (rLen bs most s).2.err = 0) : rIs bs most s = rL bs (rLen bs most s).1 (rLen bs most s).2 := by unfold rIs; rw [if_pos h]
set_option maxRecDepth 100000 in
set_option maxHeartbeats 4000000 in
theorem rints_any (p : Nat) (A : Option Addr) (bs : List UInt8) (most : Int) (s : RS) (w : World) (h : Rd 99 w p A bs s) (hm : I64 most) :
    Calls Try.prog 58 #[.pointer (some ⟨p, 0, none⟩), .int .i64 most] w (RdIntsPost 99 p A bs (rIs bs most s).1 (rIs bs most s).2 w) := by
  have H := Lib.hid h
  have HF := Lib.hid (rLen_fine most h.ok)
  have HM := Lib.hid hm
  have R0 := Lib.hid (@rIs_shut bs most s)
  have R1 := Lib.hid (@rIs_open bs most s)
  clear h hm
  go_enter Try.func58, Try.ntmps58
  go_wp2_with fail
  refine (rlen_any p A bs most s _ H.out HM.out).mono ?_
  rintro e w1 ⟨rfl, h1, f1⟩
  have H1 := Lib.hid h1
  have F1 := Lib.hid f1
  clear h1 f1
  generalize rLen bs most s = r at *
  obtain ⟨n, s2⟩ := r
  go_wp2_with fail
  by_cases he : s2.err = 0
  · refine (ready_of H1.out true (by simpa using he)).mono ?_
    rintro e w' ⟨rfl, rfl⟩
    have HR := Lib.hid (R1.out he)
    have HB : Hid ((n : Int) ≤ 9223372036854775807) := by
      have h1 : (n : Int) ≤ max most 0 := (HF.out.2.2.2 he).2.2
      have h2 := HM.out.2
      show _ ≤ _
      omega
    have hE := Lib.hid he
    clear he
    go_wp2_with fail
    refine (rlist_any p A bs n s2 _ H1.out hE.out HB.out).mono ?_
    rintro e w2 ⟨v, rfl, a1, a2, a3, a4⟩
    have G1 := Lib.hid a1
    have G2 := Lib.hid a2
    have G3 := Lib.hid a3
    have G4 := Lib.hid (Frm.two F1.out a4)
    have G5 : Hid (w.heap.size ≤ w1.heap.size) := F1.out.size
    clear a1 a2 a3 a4
    go_wp2_with fail
    go_ret
    exact ⟨v, rfl, by rw [HR.out]; exact G1.out, fun j hj => Nat.le_trans G5.out (G2.out j hj), by rw [HR.out]; exact G3.out, G4.out⟩
  · have HR := Lib.hid (R0.out he)
    refine (ready_of H1.out false (by simpa using he)).mono ?_
    rintro e w' ⟨rfl, rfl⟩
    clear he
    go_wp2_with fail
    go_ret
    exact ⟨.slice none 0 0, rfl, by rw [HR.out]; exact World.ownsRow_nil _ _ _ _, (fun j hj => by cases hj), by rw [HR.out]; exact H1.out, F1.out⟩

/-- a new reader: a copy of the bytes. -/
def NewRd (T : TypeId) (bs : List UInt8) (w : World) (e : Ending) (w' : World) : Prop :=
  ∃ g A, e = .returned (.pointer (some ⟨g, 0, none⟩)) ∧ (∀ k, rown g A k → w.heap.size ≤ k) ∧ Rd T w' g A bs ⟨0, 0⟩ ∧ Below w.heap.size w w'
set_option maxRecDepth 100000 in
set_option maxHeartbeats 1000000 in
theorem newReader_any (bs : List UInt8) (A : Option Addr) (n c : Nat) (w : World) (hs : Sl w 1 A n (byts bs)) (hl : n ≤ 100000000000) :
    Calls Try.prog 55 #[.slice A n c] w (NewRd 99 bs w) := by
  obtain ⟨i0, hi0, hz0, hz1, hz2⟩ := info_parts u8_info
  have LN : Hid (bs.length = n) := by show _ = _; simpa [byts_len] using hs.1
  have HS := Lib.hid hs
  clear hs
  go_enter Try.func55, Try.ntmps55
  go_wp2_with (at_builtin; refine wpList_append_sl _ rfl (.const (.slice none 0 0)) (.tmp 3) 40 rfl 5 i0 (.int .u8 0) 1 1 Try.underlying40 hi0 hz0 hz1 hz2 rfl (by decide) (.slice none 0 0) 0 [] rfl (World.ownsRow_nil _ _ _ _) A n c (byts bs) rfl HS.out (byts_one _) (by unfold maxLen; omega) (by omega) ?_; intro v1 w1 hown1 hg1 hat1; obtain ⟨A1, c1, rfl, hs1⟩ := own_form hown1; have H1 := Lib.hid hown1; have H2 := Lib.hid hg1; have H3 := Lib.hid hat1; have H4 := Lib.hid hs1; clear hown1 hg1 hat1 hs1)
  go_ret
  have hlt : ∀ a, A1 = some a → a.block < w1.heap.size := fun a e => (H1.out.lt a.block (by rw [e]; rfl)).2
  have hge : ∀ a, A1 = some a → w.heap.size ≤ a.block := fun a e => by
    have h5 := H3.out
    rw [e] at h5
    rcases h5 with h5 | h5
    · cases h5
    · injection h5 with h5
      exact Nat.le_of_eq h5.symm
  have hcap : n ≤ c1 ∧ c1 ≤ 9223372036854775807 := by
    rcases H1.out.2 with ⟨e, h0⟩ | ⟨g, cap, cur, e, _, _, h6, h7, _⟩
    · injection e with _ _ e3
      omega
    · injection e with _ _ e3
      unfold maxLen at h7
      omega
  have hb : Below w.heap.size w w1 := (Frm.of_grown (F := fun _ => False) H2.out (fun i hi => by cases hi)).below (Nat.le_refl _) (fun _ _ g => g)
  refine ⟨w1.heap.size, A1, rfl, fun k hk => ?_, ⟨⟨c1, ?_, ?_⟩, ?_, fun a e => ⟨Nat.ne_of_lt (hlt a e), by have := hlt a e; simp; omega⟩, ⟨Nat.zero_le _, by show (0 : Int) ≤ 0; omega, by show (0 : Int) ≤ 32; omega⟩, by rw [LN.out]; exact hl⟩, hb.alloc hb.size _⟩
  · rcases hk with rfl | ⟨a, e, rfl⟩
    · exact hb.size
    · exact hge a e
  · have := Blk.new w1 99 #[.slice A1 (0 + n) c1, .int .i64 0, .int .i64 0]
    rw [Nat.zero_add] at this
    rw [LN.out]
    simpa using this
  · rw [LN.out]; exact hcap
  · have h5 := H4.out
    rw [Nat.zero_add, List.nil_append] at h5
    rw [LN.out]
    exact h5.alloc _
end Go.Proofs.Ythpmngdpgniehaa.Wr
