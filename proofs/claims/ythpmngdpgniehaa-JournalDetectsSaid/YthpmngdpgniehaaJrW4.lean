/-
  The walk of the journal's Read. Conditions: the bytes lie in memory; at most 100000000 of them.
-/
import Derived.Test.YthpmngdpgniehaaJrW3
import Derived.Test.YthpmngdpgniehaaJrW2
namespace Go.Proofs.Ythpmngdpgniehaa.Jr
open Go.RowKit Go.Proofs.Ythpmngdpgniehaa.Mem Go.Proofs.Ythpmngdpgniehaa.Wr Go.Proofs.Ythpmngdpgniehaa.Opn
attribute [local go_sem ↓] exec_load_rec exec_store_rec exec_cut

theorem Row.below {F O : Nat → Prop} {w w' : World} {v : Value} {rs : List Rec} (h : Row F O w v rs) (hb : Below w.heap.size w w') : Row F O w' v rs := by
  obtain ⟨xs, L, h1, h2, h3, h4⟩ := h
  have hf : Frm (fun _ => False) w w' := Frm.of_below hb fun i hi hg => by omega
  exact ⟨xs, L, own_frm h1 hf (fun _ _ f => f), h2.frm hf (fun _ _ f => f), h3, h4⟩
/-- what Read hands back. -/
def ReadPost (R : List Rec × Nat × Int) (w : World) (e : Ending) (w' : World) : Prop :=
  ∃ v, e = .returned (.tuple #[v, .int .u64 (R.2.1 : Int), .int .i64 R.2.2]) ∧ Row (fun i => w.heap.size ≤ i ∧ i < w'.heap.size) (fun _ => False) w' v R.1 ∧ Below w.heap.size w w'
theorem read_end {R : List Rec × Nat × Int} {out : List Rec} {h : Nat} {x : Int} {w wr w' : World} {v : Value} (hR : R = (out, h, x)) (hb : Below w.heap.size w wr) (hrow : Row (fun i => w.heap.size ≤ i ∧ i < wr.heap.size) (fun _ => False) wr v out) (hb2 : Below wr.heap.size wr w') :
    ReadPost R w (.returned (.tuple #[v, .int .u64 (h : Int), .int .i64 x])) w' := by
  subst hR
  exact ⟨v, rfl, (hrow.below hb2).mono fun i hi => ⟨hi.1, Nat.lt_of_lt_of_le hi.2 hb2.size⟩, hb.trans (hb2.mono hb.size)⟩
/-- what a round of Read has come to. -/
def RdRel (bs : List UInt8) (w : World) (v : Value) (wr : World) (p h : Nat) (out : List Rec) (f : Nat) : Prop :=
  Below w.heap.size w wr ∧ Row (fun i => w.heap.size ≤ i ∧ i < wr.heap.size) (fun _ => False) wr v out ∧ bs.length - p < f ∧ readN bs = readG bs f p h out
theorem rd_next {bs : List UInt8} {w wr W1 w2 : World} {v v2 : Value} {p h f m h2 : Nat} {out : List Rec} {r : Rec} {cs : Array Value} {xs : List Value} {L : Nat → Prop} (h0 : RdRel bs w v wr p h out (f + 1)) (hx : RowX (fun i => w.heap.size ≤ i ∧ i < wr.heap.size) (fun _ => False) wr v out xs L)
    (hb : Below wr.heap.size wr W1) (hr : IsRec W1 cs r) (hl : Lst (fun i => wr.heap.size ≤ i) cs) (hg : W1.grownBy w2 v.ownBlock) (hat : v2.ownBlock = v.ownBlock ∨ v2.ownBlock = some W1.heap.size) (o2 : w2.ownsRow 0 27 12 v2 (out.length + 1) (xs ++ cs.toList))
    (hR : readN bs = readG bs f m h2 (out ++ [r])) (hm : p < m ∧ m ≤ bs.length) : RdRel bs w v2 w2 m h2 (out ++ [r]) f := by
  obtain ⟨a1, a2, a3, a4⟩ := h0
  have hf : Frm (fun _ => False) wr W1 := Frm.of_below hb fun i hi hg => by omega
  obtain ⟨q1, q2⟩ := row_push hx (fun i f => f.elim) (fun i hi => hi.2) hf hr (rec_size hr) hl hg hat o2
  refine ⟨a1.trans (q2.below a1.size fun i hi e => ?_), q1.mono fun i hi => ?_, by omega, hR⟩
  · have := (hx.2.2.1 i e).1
    omega
  · have := q2.size
    have := a1.size
    rcases hi with hi | hi <;> omega
theorem frm_none {w w' : World} (hb : Below w.heap.size w w') : Frm (fun _ => False) w w' := Frm.of_below hb fun i hi hg => by omega

set_option maxRecDepth 100000 in
set_option maxHeartbeats 16000000 in
theorem read_any (bs : List UInt8) (A : Option Addr) (n c : Nat) (w : World) (hs : Sl w 1 A n (byts bs)) (hn : n ≤ 100000000) (hc : n ≤ c) (hcm : c ≤ 9223372036854775807) :
    Calls Try.prog 24 #[.slice A n c] w (ReadPost (readN bs) w) := by
  obtain ⟨i0, hi0, hz0, hz1, hz2⟩ := info_parts rec_info
  have hbl : bs.length = n := by have := hs.1; simpa [byts_len] using this
  have HBL := Lib.hid hbl
  have HS := Lib.hid hs
  have HN := Lib.hid hn
  clear hs hbl
  go_enter Try.func24, Try.ntmps24
  go_wp2_with fail
  go_loopw [5, 6, 7] (fun vo hv pv wr => ∃ (p h f : Nat) (out : List Rec), pv = .int .i64 (p : Int) ∧ hv = .int .u64 (h : Int) ∧ p ≤ n ∧ Hid (RdRel bs w vo wr p h out f)) (fun _ _ pv _ => n - (intOf pv).toNat)
  case atStart => exact ⟨0, 0, bs.length + 1, [], rfl, rfl, Nat.zero_le _, ⟨Below.refl _ _, Row.none _ _ _, by omega, rfl⟩⟩
  case round =>
    obtain ⟨p, h, f, out, rfl, rfl, hp, HR⟩ := hrel
    obtain ⟨A2, c2, hv2, _, _⟩ := HR.out.2.1.form
    subst hv2
    by_cases hlt : p < n
    · have hlti : (p : Int) < (n : Int) := by omega
      have hltb : p < bs.length := by have := HBL.out; omega
      have hf : 0 < f := by have := HR.out.2.2.1; omega
      by_cases ho : 4096 ≤ out.length
      · have EE : Hid (ReadPost (readN bs) w (.returned _) _) := Lib.hid (read_end (HR.out.2.2.2.trans (readG_full hf hltb ho)) HR.out.1 HR.out.2.1 (Below.refl _ _))
        have hoi : (4096 : Int) ≤ (out.length : Int) := by omega
        clear ho
        go_wp2_with fail
        go_ret3
        exact EE.out
      · have hoi : (out.length : Int) < 4096 := by omega
        have tho : decide (4096 ≤ out.length) = false := by simpa using ho
        have HO := Lib.hid ho
        have CN0 := next_any bs A n c (p : Int) _ (HS.out.below HR.out.1 (Nat.le_refl _)) (by omega) hc hcm
        rw [next_at (by have := HBL.out; omega)] at CN0
        clear ho
        cases hnx : nextN bs p with
        | error e =>
          rw [hnx] at CN0
          have CN : Hid (Calls Try.prog 69 #[.slice A n c, .int .i64 (p : Int)] _ (NextPost ([], 0, e) _)) := Lib.hid CN0
          have he0 : (e != 0) = true := by rcases nextN_errs hnx with h1 | h1 | h1 <;> (rw [h1]; rfl)
          have HNX := Lib.hid hnx
          clear CN0 hnx
          go_wp2_with fail
          refine CN.out.mono ?_
          rintro e1 w1 ⟨v1, rfl, _, _, b1⟩
          have EE : Hid (ReadPost (readN bs) w (.returned _) w1) := Lib.hid (read_end (HR.out.2.2.2.trans (readG_err hf hltb HO.out (stepN_err HNX.out))) HR.out.1 HR.out.2.1 b1)
          clear b1 CN
          go_wp2_with fail
          go_ret3
          exact EE.out
        | ok q =>
          obtain ⟨x, m⟩ := q
          rw [hnx] at CN0
          have CN : Hid (Calls Try.prog 69 #[.slice A n c, .int .i64 (p : Int)] _ (NextPost (x, m, 0) _)) := Lib.hid CN0
          have HNX := Lib.hid hnx
          obtain ⟨hm1, hm2, _, _, hxl⟩ := nextN_back (by have := HBL.out; omega) hnx
          have hm3 : m ≤ n := by have := HBL.out; omega
          have hxn : x.length ≤ n := by have := HBL.out; omega
          have HM := Lib.hid hm2
          have HM2 := Lib.hid hm1
          clear CN0 hnx hm1 hxl
          go_wp2_with fail
          refine CN.out.mono ?_
          rintro e1 w1 ⟨v1, rfl, o1, _, b1⟩
          clear CN
          obtain ⟨A3, c3, rfl, s3⟩ := own_form o1
          have c3n : x.length ≤ c3 := by
            rcases o1.2 with ⟨e, h0⟩ | ⟨g, cap, cur, e, _, _, hn, _⟩
            · have h0 : x.length = 0 := h0
              omega
            · injection e with _ _ e
              have hn : x.length ≤ cap := hn
              omega
          have s3 : Sl w1 1 A3 x.length (byts x) := s3
          have S3 := Lib.hid s3
          have B1 := Lib.hid b1
          clear o1 s3 b1
          by_cases h8 : x.length < 8
          · have EE : Hid (ReadPost (readN bs) w (.returned _) w1) := Lib.hid (read_end (HR.out.2.2.2.trans (readG_err hf hltb HO.out ((stepN_ok HNX.out).trans (contN_short h8)))) HR.out.1 HR.out.2.1 B1.out)
            have h8i : (x.length : Int) < 8 := by omega
            clear h8
            go_wp2_with fail
            go_ret3
            exact EE.out
          · obtain ⟨s, hs8⟩ : ∃ s, x.length = s + 8 := ⟨x.length - 8, by omega⟩
            have h8i : (8 : Int) ≤ (x.length : Int) := by omega
            have t8 : decide ((x.length : Int) < 8) = false := by simp; omega
            have hsi : (x.length : Int) - 8 = (s : Int) := by omega
            have hse : x.length - 8 = s := by omega
            have HX8 := Lib.hid h8
            have HSE := Lib.hid hse
            have HS8 := Lib.hid hs8
            obtain ⟨A4, cut4, cu4⟩ := run_cut_max (P := Try.prog) (t := 40) Try.underlying40 (size := 1) (by kernel_rfl) A3 x.length c3 s (by omega)
            obtain ⟨A5, c5, cut5, cu5⟩ := run_cut_from (P := Try.prog) (t := 40) Try.underlying40 (size := 1) (by kernel_rfl) A3 x.length c3 s (by omega) c3n
            have h58 : x.length - s = 8 := by omega
            rw [h58] at cut5
            have S4 : Hid (Sl w1 1 A4 s (byts (x.take s))) := Lib.hid (by
              have := cu4.cells w1 _ S3.out (by omega)
              rw [Nat.sub_zero, Nat.zero_mul, List.drop_zero, Nat.mul_one] at this
              unfold byts at this ⊢
              rw [List.map_take]
              exact this)
            have S5 : Hid (Sl w1 1 A5 8 (byts (x.drop s))) := Lib.hid (by
              have := cu5.cells w1 _ S3.out (Nat.le_refl _)
              rw [h58, Nat.mul_one, Nat.mul_one] at this
              unfold byts at this ⊢
              rw [List.map_drop]
              rw [List.take_of_length_le (by simp; omega)] at this
              exact this)
            have cv : (convert 40 9 (.slice A4 s s)).run Try.prog w1 = .ok (.string ⟨(x.take s).toArray⟩) w1 := run_string_sl _ _ _ Try.underlying40 Try.underlying5 Try.underlying9 S4.out _
            have hs0 : (0 : Int) ≤ (s : Int) := by omega
            clear cu4 cu5 h8 hs8 hse h58 c3n S3
            go_wp2_with fail
            have HSL : Hid (s ≤ 100000000) := Lib.hid (by have := HN.out; omega)
            have HH := Lib.hid (hashN_eq h (x.take s))
            have HTL : Hid ((x.take s).length = s) := Lib.hid (by have := HS8.out; rw [List.length_take]; omega)
            refine (Dg.chain_any _ _ _ (by have := HTL.out; have := HSL.out; unfold maxLen; show (x.take s).toArray.size ≤ _; simp only [List.size_toArray]; omega)).mono ?_
            rintro e w2 ⟨rfl, rfl⟩
            have HC : Hid (Dg.chainI (h : Int) (⟨(x.take s).toArray⟩ : ByteArray).data.toList = ((hashN h (x.take s) : Nat) : Int)) := HH.out
            rw [HC.out]
            clear HC cv
            go_wp2_with fail
            refine (readHash_any (x.drop s) A5 c5 _ S5.out).mono ?_
            rintro e w2 ⟨rfl, rfl⟩
            clear S5 cut5 cut4
            have HCB : Hid (¬ unbig (x.drop s) = hashN h (x.take s) → contN x m h = .error 27) := Lib.hid (fun hh => contN_bad HX8.out (by rw [HSE.out]; exact hh))
            have HCD : Hid (unbig (x.drop s) = hashN h (x.take s) → ¬ decErr (x.take s) = 0 → contN x m h = .error (decErr (x.take s))) := Lib.hid (fun hh hd => by have := contN_dec (m := m) HX8.out (by rw [HSE.out]; exact hh) (by rw [HSE.out]; exact hd); rw [HSE.out] at this; exact this)
            have HCO : Hid (unbig (x.drop s) = hashN h (x.take s) → decErr (x.take s) = 0 → contN x m h = .ok (dec (x.take s), m, hashN h (x.take s))) := Lib.hid (fun hh hd => by have := contN_ok (m := m) HX8.out (by rw [HSE.out]; exact hh) (by rw [HSE.out]; exact hd); rw [HSE.out] at this; exact this)
            generalize x.drop s = xd at *
            generalize x.take s = xt at *
            by_cases hu : unbig xd = hashN h xt
            · have tu : (((unbig xd : Nat) : Int) != ((hashN h xt : Nat) : Int)) = false := by simp [hu]
              have HU := Lib.hid hu
              clear hu
              go_wp2_with fail
              refine (decode_any xt A4 s s _ S4.out HSL.out).mono ?_
              rintro e w3 ⟨cs, rfl, ir, b3, ls⟩
              have HIR := Lib.hid ir
              have HLS : Hid (Lst (fun i => wr.heap.size ≤ i) cs) := Lib.hid (ls.mono fun i hi => Nat.le_trans B1.out.size hi)
              have B3 := Lib.hid (B1.out.trans (b3.mono B1.out.size))
              have kz : Blk (w3.alloc (.cells #[.int .i64 0, .int .i64 0, .int .i64 0, .int .i64 0, .int .i64 0, .string ⟨#[]⟩, .string ⟨#[]⟩, .slice none 0 0, .int .u64 0, .int .u64 0, .string ⟨#[]⟩, .slice none 0 0] 27)) w3.heap.size 27 #[.int .i64 0, .int .i64 0, .int .i64 0, .int .i64 0, .int .i64 0, .string ⟨#[]⟩, .string ⟨#[]⟩, .slice none 0 0, .int .u64 0, .int .u64 0, .string ⟨#[]⟩, .slice none 0 0] := Blk.new _ _ _
              have st := store_rec (cs := cs) kz rfl (rec_size ir) (rec_one ir)
              have KB := Lib.hid (Blk_setRow kz cs)
              have BA : Hid (Below w3.heap.size w3 ((w3.alloc (.cells #[.int .i64 0, .int .i64 0, .int .i64 0, .int .i64 0, .int .i64 0, .string ⟨#[]⟩, .string ⟨#[]⟩, .slice none 0 0, .int .u64 0, .int .u64 0, .string ⟨#[]⟩, .slice none 0 0] 27)).setRow w3.heap.size cs)) := Lib.hid (((Below.refl _ w3).alloc (Nat.le_refl _) _).trans ((frm_setRow _ _ _).below (by simp) (fun i hi e => by omega)))
              obtain ⟨W1, hW1⟩ : ∃ W1, W1 = ((w3.alloc (.cells #[.int .i64 0, .int .i64 0, .int .i64 0, .int .i64 0, .int .i64 0, .string ⟨#[]⟩, .string ⟨#[]⟩, .slice none 0 0, .int .u64 0, .int .u64 0, .string ⟨#[]⟩, .slice none 0 0] 27)).setRow w3.heap.size cs) := ⟨_, rfl⟩
              rw [← hW1] at st KB BA
              have HI1 : Hid (IsRec W1 cs (dec xt)) := Lib.hid (HIR.out.below BA.out (Nat.le_refl _))
              have B4 := Lib.hid (B3.out.trans (BA.out.mono B3.out.size))
              clear hW1 kz ir ls b3 S4 B1 B3 BA HIR
              by_cases hd : decErr xt = 0
              · have HE := Lib.hid (HCO.out HU.out hd)
                have ld1 : (loadRow 27 (.pointer (some ⟨w3.heap.size, 0, none⟩))).run Try.prog W1 = .ok (.agg cs) W1 := load_blk KB.out (rec_size HI1.out)
                rw [hd]
                obtain ⟨f', rfl⟩ : ∃ f', f = f' + 1 := ⟨f - 1, by omega⟩
                have HRN : Hid (readN bs = readG bs f' m (hashN h xt) (out ++ [dec xt])) := Lib.hid (HR.out.2.2.2.trans (readG_next hltb HO.out ((stepN_ok HNX.out).trans HE.out)))
                obtain ⟨xs, L, hx⟩ := HR.out.2.1
                have HX := Lib.hid hx
                have id3 := HI1.out
                obtain ⟨B7, d7, B11, d11, hds, _⟩ := id3
                subst hds
                unfold recCells at st ld1
                have id2 : Hid (IsRec (W1.alloc _) _ _) := Lib.hid (HI1.out.below ((Below.refl _ W1).alloc (Nat.le_refl _) (.cells (recCells (dec xt) B7 d7 B11 d11) 27)) (Nat.le_refl _))
                have B5 := Lib.hid (B4.out.alloc B4.out.size (.cells (recCells (dec xt) B7 d7 B11 d11) 27))
                have O5 := Lib.hid (own_frm hx.1 (frm_none B5.out) (fun _ _ f => f))
                clear hx hd HCB HCD HCO HE
                unfold recCells
                go_wp2_with (at_builtin; refine wpList_append_sl _ rfl (.tmp 70) (.tmp 72) 29 rfl 27 i0 (.agg zeroRec) 12 152 Try.underlying29 hi0 hz0 hz1 hz2 rfl (by decide) (.slice A2 out.length c2) out.length xs rfl O5.out _ 1 1 (recCells (dec xt) B7 d7 B11 d11).toList rfl (new_row _ _ _ rfl rfl) (rec_ones id2.out) (by unfold maxLen; omega) (by omega) ?_; intro v1 w6 hown1 hg1 hat1; have G1 := Lib.hid hown1; have G2 := Lib.hid hg1; have G3 := Lib.hid hat1; clear hown1 hg1 hat1)
                have RR : Hid (RdRel bs w v1 w6 m (hashN h xt) (out ++ [dec xt]) f') := Lib.hid (rd_next HR.out HX.out B5.out id2.out HLS.out G2.out G3.out G1.out HRN.out ⟨HM.out, HM2.out⟩)
                go_wp2_with fail
                go_roundw
                case rel => exact ⟨m, hashN h xt, f', out ++ [dec xt], rfl, rfl, hm3, RR⟩
                case measure => simp [intOf]; omega
              · have EE : Hid (ReadPost (readN bs) w (.returned _) W1) := Lib.hid (read_end (HR.out.2.2.2.trans (readG_err hf hltb HO.out ((stepN_ok HNX.out).trans (HCD.out HU.out hd)))) HR.out.1 HR.out.2.1 B4.out)
                have td : (decErr xt != 0) = true := by simp [hd]
                clear hd HCB HCD HCO KB
                go_wp2_with fail
                go_ret3
                exact EE.out
            · have tu : (((unbig xd : Nat) : Int) != ((hashN h xt : Nat) : Int)) = true := by rw [bne_iff_ne]; intro h; exact hu (by omega)
              have EE : Hid (ReadPost (readN bs) w (.returned _) w1) := Lib.hid (read_end (HR.out.2.2.2.trans (readG_err hf hltb HO.out ((stepN_ok HNX.out).trans (HCB.out hu)))) HR.out.1 HR.out.2.1 B1.out)
              clear hu HCB HCD HCO
              go_wp2_with fail
              go_ret3
              exact EE.out
    · have HE : Hid (readN bs = (out, h, 0)) := Lib.hid (by rw [HR.out.2.2.2]; exact readG_end (by have := HBL.out; omega))
      have EE : Hid (ReadPost (readN bs) w (.returned _) _) := Lib.hid (read_end HE.out HR.out.1 HR.out.2.1 (Below.refl _ _))
      have hge : (n : Int) ≤ (p : Int) := by omega
      have tge : decide ((p : Int) < (n : Int)) = false := by simp; omega
      go_wp2_with fail
      go_ret3
      exact EE.out
end Go.Proofs.Ythpmngdpgniehaa.Jr
