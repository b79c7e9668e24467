/-
  The walk of the journal's Bytes. Conditions: the object lies in memory; at most 60 records.
-/
import Derived.Test.YthpmngdpgniehaaJrW1
import Derived.Test.YthpmngdpgniehaaCut
import Derived.Test.YthpmngdpgniehaaFr2
namespace Go.Proofs.Ythpmngdpgniehaa.Jr
open Go.RowKit Go.Proofs.Ythpmngdpgniehaa.Mem Go.Proofs.Ythpmngdpgniehaa.Wr Go.Proofs.Ythpmngdpgniehaa.Opn
attribute [local go_sem ↓] exec_load_rec exec_store_rec exec_cut

theorem enc_pos (r : Rec) : 0 < (enc r).length := by
  obtain ⟨z, hz⟩ := pre_split r 1 12 (by decide)
  have h1 : 0 < (pre r 1).length := by
    show 0 < ([] ++ wInt r.k0).length
    rw [List.nil_append]
    unfold wInt
    exact uv_pos _
  unfold enc
  rw [hz, List.length_append]
  omega
theorem frame_le {r : Rec} (hr : Good r) (h : Nat) : (frame (cont h r)).length ≤ 1200146 := by
  have h1 := enc_len hr
  have h2 := cont_len h r
  have h3 := uv_len64 (n := (cont h r).length) (by omega)
  rw [frame_len]
  omega
theorem jbytes_len : ∀ (rs : List Rec) (h : Nat), (∀ r ∈ rs, Good r) → (jbytes h rs).length ≤ rs.length * 1200146
  | [], _, _ => Nat.zero_le _
  | r :: rs, h, hg => by
    have h1 := frame_le (hg r (by simp)) h
    have h2 := jbytes_len rs (hashN h (enc r)) (fun s hs => hg s (by simp [hs]))
    rw [jbytes, List.length_append, List.length_cons]
    omega
/-- what a round of Bytes has come to. -/
def ByRel (bs : List UInt8) (w : World) (v : Value) (wr : World) : Prop :=
  Below w.heap.size w wr ∧ wr.ownsRow 0 5 1 v bs.length (byts bs) ∧ ∀ j, v.ownBlock = some j → w.heap.size ≤ j
theorem by_next {w wr w1 w2 : World} {v v2 : Value} {bs x : List UInt8} (h : ByRel bs w v wr) (hb : Below wr.heap.size wr w1) (hown : w2.ownsRow 0 5 1 v2 (bs.length + x.length) (byts bs ++ byts x)) (hg : w1.grownBy w2 v.ownBlock) (hat : v2.ownBlock = v.ownBlock ∨ v2.ownBlock = some w1.heap.size) : ByRel (bs ++ x) w v2 w2 := by
  refine ⟨(h.1.trans (hb.mono h.1.size)).trans ((Frm.of_grown (F := fun k => w.heap.size ≤ k) hg (fun i hi => h.2.2 i hi)).below (Nat.le_trans h.1.size hb.size) (fun i hi e => by omega)), ?_, fun j hj => ?_⟩
  · rw [List.length_append, byts_append]
    exact hown
  · rcases hat with e | e
    · exact h.2.2 j (by rw [← e]; exact hj)
    · rw [e] at hj
      injection hj with hj
      have := h.1.size
      have := hb.size
      omega
set_option maxRecDepth 100000 in
set_option maxHeartbeats 8000000 in
theorem bytes_any (F : Nat → Prop) (g : Nat) (v : Value) (rs : List Rec) (h : Int) (w : World) (hj : Jo F w g v rs h) (hg : ∀ r ∈ rs, Good r) (hn : rs.length ≤ 60) :
    Calls Try.prog 18 #[.pointer (some ⟨g, 0, none⟩)] w (RetBytes (jbytes 0 rs) w) := by
  obtain ⟨i0, hi0, hz0, hz1, hz2⟩ := info_parts u8_info
  obtain ⟨A, c, hv, hs, _⟩ := hj.2.2.2.form
  subst hv
  have HS := Lib.hid hs
  have HG := Lib.hid hg
  obtain ⟨n, hnn⟩ : ∃ n, n = rs.length := ⟨_, rfl⟩
  have q0 : w.cell? ⟨g, 0, none⟩ = some (.slice A n c) := by rw [hnn]; exact hj.1.cell 0
  rw [← hnn] at hn
  have HN := Lib.hid hnn
  have HB : Hid (∀ k, (jbytes 0 (rs.take k)).length ≤ 72008760) := Lib.hid (fun k => by
    have h1 := jbytes_len (rs.take k) 0 (fun r hr => hg r (List.mem_of_mem_take hr))
    have h2 : (rs.take k).length ≤ 60 := by rw [List.length_take]; omega
    omega)
  clear hj hs hg hnn
  go_enter Try.func18, Try.ntmps18
  go_wp2_with fail
  go_loopw [3, 4, 16] (fun vo hv i wr => ∃ k : Nat, k ≤ n ∧ i = .int .i64 (k : Int) ∧ hv = .int .u64 ((hashes 0 (rs.take k) : Nat) : Int) ∧ Hid (ByRel (jbytes 0 (rs.take k)) w vo wr)) (fun _ _ i _ => n - (intOf i).toNat)
  case atStart => exact ⟨0, by omega, rfl, rfl, ⟨Below.refl _ _, World.ownsRow_nil _ _ _ _, fun j hj => by cases hj⟩⟩
  case round =>
    obtain ⟨k, hk, rfl, rfl, HR⟩ := hrel
    by_cases hlt : k < n
    · have hkr : k < rs.length := by have := HN.out; omega
      have hk1 : rs[k]? = some rs[k] := List.getElem?_eq_getElem hkr
      have HGR := Lib.hid (HG.out rs[k] (List.getElem_mem hkr))
      obtain ⟨b, off, cs, rfl, _, hi, hcell⟩ := HS.out k _ hk1
      have ht : rs.take (k + 1) = rs.take k ++ [rs[k]] := List.take_succ_eq_append_getElem hkr
      have HT1 : Hid (hashes 0 (rs.take (k + 1)) = hashN (hashes 0 (rs.take k)) (enc rs[k])) := Lib.hid (by rw [ht, hashes_snoc])
      have HT2 : Hid (jbytes 0 (rs.take (k + 1)) = jbytes 0 (rs.take k) ++ frame (cont (hashes 0 (rs.take k)) rs[k])) := Lib.hid (by rw [ht, jbytes_snoc])
      have HB1 := Lib.hid (HB.out k)
      have HB2 := Lib.hid (HB.out (k + 1))
      have HI : Hid (IsRec wr cs rs[k]) := Lib.hid (hi.below HR.out.1 (Nat.le_refl _))
      have ld : (loadRow 27 (.pointer (some ⟨b, off + k * 12, none⟩))).run Try.prog wr = .ok (.agg cs) wr := load_rec (fun j u hu => (HR.out.1.cell (World.block_lt_of_cell? w _ (hcell j u hu))).trans (hcell j u hu)) (rec_size hi)
      have HCS := Lib.hid (rec_size hi)
      have HC1 := Lib.hid (rec_one hi)
      clear hi hcell hk1 ht
      generalize rs[k] = r at *
      generalize hashes 0 (rs.take k) = h0 at *
      generalize jbytes 0 (rs.take k) = J at *
      have HH := Lib.hid (hashN_eq h0 (enc r))
      have HEP := Lib.hid (enc_pos r)
      have HEL := Lib.hid (enc_len HGR.out)
      have HFL := Lib.hid (frame_le HGR.out h0)
      have HCL := Lib.hid (cont_len h0 r)
      have hlti : (k : Int) < (n : Int) := by omega
      have h0i : (0 : Int) ≤ (k : Int) := by omega
      have kz : Blk (wr.alloc (.cells #[.int .i64 0, .int .i64 0, .int .i64 0, .int .i64 0, .int .i64 0, .string ⟨#[]⟩, .string ⟨#[]⟩, .slice none 0 0, .int .u64 0, .int .u64 0, .string ⟨#[]⟩, .slice none 0 0] 27)) wr.heap.size 27 #[.int .i64 0, .int .i64 0, .int .i64 0, .int .i64 0, .int .i64 0, .string ⟨#[]⟩, .string ⟨#[]⟩, .slice none 0 0, .int .u64 0, .int .u64 0, .string ⟨#[]⟩, .slice none 0 0] := Blk.new _ _ _
      have st := store_rec (cs := cs) kz rfl HCS.out HC1.out
      have KB := Lib.hid (Blk_setRow kz cs)
      have BA : Hid (Below wr.heap.size wr ((wr.alloc (.cells #[.int .i64 0, .int .i64 0, .int .i64 0, .int .i64 0, .int .i64 0, .string ⟨#[]⟩, .string ⟨#[]⟩, .slice none 0 0, .int .u64 0, .int .u64 0, .string ⟨#[]⟩, .slice none 0 0] 27)).setRow wr.heap.size cs)) := Lib.hid (((Below.refl _ wr).alloc (Nat.le_refl _) _).trans ((frm_setRow _ _ _).below (by simp) (fun i hi e => by omega)))
      obtain ⟨W1, hW1⟩ : ∃ W1, W1 = ((wr.alloc (.cells #[.int .i64 0, .int .i64 0, .int .i64 0, .int .i64 0, .int .i64 0, .string ⟨#[]⟩, .string ⟨#[]⟩, .slice none 0 0, .int .u64 0, .int .u64 0, .string ⟨#[]⟩, .slice none 0 0] 27)).setRow wr.heap.size cs) := ⟨_, rfl⟩
      rw [← hW1] at st KB BA
      have ld1 : (loadRow 27 (.pointer (some ⟨wr.heap.size, 0, none⟩))).run Try.prog W1 = .ok (.agg cs) W1 := load_blk KB.out HCS.out
      have HI1 : Hid (IsRec W1 cs r) := Lib.hid (HI.out.below BA.out (Nat.le_refl _))
      clear hW1 kz
      go_wp2_with fail
      refine (encode_any r cs _ HI1.out HGR.out.1 HGR.out.2.lim).mono ?_
      rintro e w2 ⟨v7, rfl, o7, nw7, b2⟩
      obtain ⟨A7, c7, rfl, s7⟩ := own_form o7
      have c7n : (enc r).length ≤ c7 := by
        rcases o7.2 with ⟨e, h0⟩ | ⟨g, cap, cur, e, _, _, hn, _⟩
        · omega
        · injection e with _ _ e
          omega
      have B2 := Lib.hid (BA.out.trans (b2.mono BA.out.size))
      have S7 := Lib.hid s7
      clear o7 nw7 b2 st ld1 ld KB HI1 BA HI
      have cv : (convert 40 9 (.slice A7 (enc r).length c7)).run Try.prog w2 = .ok (.string ⟨(enc r).toArray⟩) w2 := run_string_sl _ _ _ Try.underlying40 Try.underlying5 Try.underlying9 s7 _
      clear s7
      go_wp2_with fail
      refine (Dg.chain_any _ _ _ (by have := HEL.out; unfold maxLen; show (enc r).toArray.size ≤ _; simp; omega)).mono ?_
      rintro e w3 ⟨rfl, rfl⟩
      have HC : Hid (Dg.chainI (h0 : Int) (⟨(enc r).toArray⟩ : ByteArray).data.toList = ((hashN h0 (enc r) : Nat) : Int)) := HH.out
      rw [HC.out]
      obtain ⟨A8, cut8, cu8⟩ := run_cut_max (P := Try.prog) (t := 40) Try.underlying40 (size := 1) (by kernel_rfl) A7 (enc r).length c7 (enc r).length c7n
      have S8 : Hid (Sl w2 1 A8 (enc r).length (byts (enc r))) := Lib.hid (by
        have := cu8.cells w2 _ S7.out (Nat.le_refl _)
        rw [Nat.sub_zero, Nat.zero_mul, List.drop_zero, Nat.mul_one, List.take_of_length_le (by rw [byts_len]; exact Nat.le_refl _)] at this
        exact this)
      clear cu8 cv HC
      go_wp2_with fail
      refine (appendHash_any (hashN h0 (enc r)) (enc r) A8 (enc r).length _ S8.out HEP.out (by have := HEL.out; omega)).mono ?_
      rintro e w4 ⟨v9, rfl, o9, _, b4⟩
      have o9 : w4.ownsRow 0 5 1 v9 (cont h0 r).length (byts (cont h0 r)) := o9
      obtain ⟨A9, c9, rfl, s9⟩ := own_form o9
      have B4 := Lib.hid (B2.out.trans (b4.mono B2.out.size))
      have S9 := Lib.hid s9
      clear o9 s9 b4 cut8 S8 S7 B2
      go_wp2_with fail
      refine (frame_any (cont h0 r) A9 (cont h0 r).length c9 _ S9.out (by have := HEL.out; have := HCL.out; omega)).mono ?_
      rintro e w5 ⟨v10, rfl, o10, _, b5⟩
      obtain ⟨A10, c10, rfl, s10⟩ := own_form o10
      have B5 := Lib.hid (B4.out.trans (b5.mono B4.out.size))
      have S10 := Lib.hid s10
      have O5 := Lib.hid (own_frm HR.out.2.1 (Frm.of_below (F := fun _ => False) B5.out (fun i hi hg => absurd hg (by omega))) (fun _ _ f => f))
      clear o10 s10 b5 S9 B4
      go_wp2_with (at_builtin; refine wpList_append_sl _ rfl (.tmp 34) (.tmp 36) 40 rfl 5 i0 (.int .u8 0) 1 1 Try.underlying40 hi0 hz0 hz1 hz2 rfl (by decide) _ J.length (byts J) rfl O5.out A10 (frame (cont h0 r)).length c10 (byts (frame (cont h0 r))) rfl S10.out (byts_one _) (by have := HB1.out; have := HFL.out; unfold maxLen; omega) (by have := HB1.out; have := HFL.out; omega) ?_; intro v1 w6 hown1 hg1 hat1; have G1 := Lib.hid hown1; have G2 := Lib.hid hg1; have G3 := Lib.hid hat1; clear hown1 hg1 hat1)
      have RR : Hid (ByRel (jbytes 0 (rs.take (k + 1))) w v1 w6) := Lib.hid (by rw [HT2.out]; exact by_next HR.out B5.out G1.out G2.out G3.out)
      go_wp2_with fail
      go_roundw
      case rel => exact ⟨k + 1, by omega, by go_num, by rw [HT1.out], RR⟩
      case measure => simp [intOf]; omega
    · obtain rfl : k = n := by omega
      have e : rs.take k = rs := List.take_of_length_le (by have := HN.out; omega)
      rw [e] at HR
      rw [e]
      have HE : Hid (RetBytes (jbytes 0 rs) w (.returned _) wr) := Lib.hid ⟨_, rfl, HR.out.2.1, HR.out.2.2, HR.out.1⟩
      generalize hashes 0 rs = hh at *
      go_wp2_with fail
      go_ret
      exact HE.out
end Go.Proofs.Ythpmngdpgniehaa.Jr
