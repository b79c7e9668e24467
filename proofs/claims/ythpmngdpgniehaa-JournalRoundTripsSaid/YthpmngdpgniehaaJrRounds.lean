/-
  The walk of JournalRoundTrips: it returns true, and changes nothing that was there. Conditions: the records lie in memory.
-/
import Derived.Test.YthpmngdpgniehaaJrSt
namespace Go.Proofs.Ythpmngdpgniehaa.Jr
open Go.RowKit Go.Proofs.Ythpmngdpgniehaa.Mem Go.Proofs.Ythpmngdpgniehaa.Wr Go.Proofs.Ythpmngdpgniehaa.Opn
attribute [local go_sem ↓] exec_load_rec exec_store_rec exec_build_recs

/-- the records that a journal takes, among the first k. -/
def ins (rs : List Rec) (k : Nat) : List Rec := (rs.take k).filter withinB
theorem ins_yes {rs : List Rec} {k : Nat} (hk : k < rs.length) (h : withinB rs[k] = true) : ins rs (k + 1) = ins rs k ++ [rs[k]] := by
  unfold ins
  rw [List.take_succ_eq_append_getElem hk, List.filter_append]
  simp [h]
theorem ins_no {rs : List Rec} {k : Nat} (hk : k < rs.length) (h : withinB rs[k] = false) : ins rs (k + 1) = ins rs k := by
  unfold ins
  rw [List.take_succ_eq_append_getElem hk, List.filter_append]
  simp [h]
theorem ins_le (rs : List Rec) (k : Nat) : (ins rs k).length ≤ rs.length := by
  unfold ins
  have h1 := List.length_filter_le withinB (rs.take k)
  have h2 : (rs.take k).length = min k rs.length := List.length_take
  omega
theorem ins_good {rs : List Rec} (hf : ∀ r ∈ rs, RecFit r) (k : Nat) : ∀ r ∈ ins rs k, Good r := fun r hr => by
  unfold ins at hr
  rw [List.mem_filter] at hr
  exact ⟨hf r (List.mem_of_mem_take hr.1), (within_iff r).1 hr.2⟩
/-- what a round of the first loop has come to. -/
def RtRel (w : World) (g : Nat) (js : List Rec) (vin : Value) (wr : World) : Prop := ∃ F v, Jo F wr g v js ((hashes 0 js : Nat) : Int) ∧ (∀ i, F i → w.heap.size ≤ i) ∧ InRow w.heap.size F wr vin js ∧ Below w.heap.size w wr
set_option maxRecDepth 100000 in
set_option maxHeartbeats 16000000 in
theorem rounds_walk (rs : List Rec) (A : Option Addr) (n c : Nat) (w : World) (hn : rs.length = n) (h : RecSl w A rs) (hfit : ∀ r ∈ rs, RecFit r) :
    Calls Try.prog 10 #[.slice A n c] w (YesB w) := by
  have HN := Lib.hid hn
  have H := Lib.hid h
  have HFit := Lib.hid hfit
  cases hfw : fewB rs with
  | false =>
    clear hn h hfit
    go_enter Try.func10, Try.ntmps10
    go_wp2_with fail
    refine (few_any rs A n c _ HN.out H.out).mono ?_
    rw [hfw]
    rintro e w1 ⟨rfl, b1⟩
    have B1 := Lib.hid b1
    clear b1
    go_wp2_with fail
    refine (awake_any _).mono ?_
    rintro e w2 ⟨rfl, b2⟩
    have B2 := Lib.hid (B1.out.trans (b2.mono B1.out.size))
    clear b2
    go_wp2_with fail
    go_ret
    exact ⟨rfl, B2.out⟩
  | true =>
    have hn60 : n ≤ 60 := by have := (few_lim hfw).1; omega
    have HFW := Lib.hid hfw
    clear hn h hfit hfw
    go_enter Try.func10, Try.ntmps10
    go_wp2_with fail
    refine (few_any rs A n c _ HN.out H.out).mono ?_
    rw [HFW.out]
    rintro e w1 ⟨rfl, b1⟩
    have B1 := Lib.hid b1
    clear b1
    go_wp2_with fail
    refine (new_any _).mono ?_
    rintro e w2 ⟨g, rfl, hg, k2, b2⟩
    have R0 : Hid (RtRel w g (ins rs 0) (.slice none 0 0) w2) := Lib.hid ⟨_, _, jo_new k2, (fun i hi => by rw [hi]; exact Nat.le_trans B1.out.size hg), InRow.none _ _ _, B1.out.trans (b2.mono B1.out.size)⟩
    clear hg k2 b2
    go_wp2_with fail
    go_loopw [4, 26] (fun vin i wr => ∃ k : Nat, k ≤ n ∧ i = .int .i64 (k : Int) ∧ Hid (RtRel w g (ins rs k) vin wr)) (fun _ i _ => n - (intOf i).toNat)
    case atStart => exact ⟨0, by omega, rfl, R0⟩
    case round =>
      obtain ⟨k, hk, rfl, HR⟩ := hrel
      obtain ⟨F, v, hj, hfn, hin, hbel⟩ := HR.out
      by_cases hlt : k < n
      · have hkr : k < rs.length := by have := HN.out; omega
        obtain ⟨b, off, cs, rfl, _, hi, hcell⟩ := H.out k _ (List.getElem?_eq_getElem hkr)
        have HLS := lst_lt hi
        have hi2 : IsRec wr cs rs[k] := hi.below hbel (Nat.le_refl _)
        have ld : (loadRow 27 (.pointer (some ⟨b, off + k * 12, none⟩))).run Try.prog wr = .ok (.agg cs) wr := load_rec (fun j u hu => (hbel.cell (World.block_lt_of_cell? w _ (hcell j u hu))).trans (hcell j u hu)) (rec_size hi)
        have HY := Lib.hid (fun h => ins_yes hkr h)
        have HNo := Lib.hid (fun h => ins_no hkr h)
        have HF := Lib.hid (HFit.out rs[k] (List.getElem_mem hkr))
        have HLen : Hid ((ins rs k).length < 4096) := Lib.hid (by have := ins_le rs k; have := HN.out; omega)
        have kz0 : Blk (wr.alloc (.cells #[.int .i64 0, .int .i64 0, .int .i64 0, .int .i64 0, .int .i64 0, .string ⟨#[]⟩, .string ⟨#[]⟩, .slice none 0 0, .int .u64 0, .int .u64 0, .string ⟨#[]⟩, .slice none 0 0] 27)) wr.heap.size 27 #[.int .i64 0, .int .i64 0, .int .i64 0, .int .i64 0, .int .i64 0, .string ⟨#[]⟩, .string ⟨#[]⟩, .slice none 0 0, .int .u64 0, .int .u64 0, .string ⟨#[]⟩, .slice none 0 0] := Blk.new _ _ _
        have st0 := store_rec (cs := cs) kz0 rfl (rec_size hi) (rec_one hi)
        have KB0 := Blk_setRow kz0 cs
        have BA0 : Below wr.heap.size wr ((wr.alloc (.cells #[.int .i64 0, .int .i64 0, .int .i64 0, .int .i64 0, .int .i64 0, .string ⟨#[]⟩, .string ⟨#[]⟩, .slice none 0 0, .int .u64 0, .int .u64 0, .string ⟨#[]⟩, .slice none 0 0] 27)).setRow wr.heap.size cs) := ((Below.refl _ wr).alloc (Nat.le_refl _) _).trans ((frm_setRow _ _ _).below (by simp) (fun i hi e => by omega))
        obtain ⟨W10, hW10⟩ : ∃ W1, W1 = ((wr.alloc (.cells #[.int .i64 0, .int .i64 0, .int .i64 0, .int .i64 0, .int .i64 0, .string ⟨#[]⟩, .string ⟨#[]⟩, .slice none 0 0, .int .u64 0, .int .u64 0, .string ⟨#[]⟩, .slice none 0 0] 27)).setRow wr.heap.size cs) := ⟨_, rfl⟩
        rw [← hW10] at st0 KB0 BA0
        clear hW10 kz0
        have S0 : Hid (St w F g v (ins rs k) (hashes 0 (ins rs k)) _ (ins rs k) wr.heap.size cs rs[k] W10) := Lib.hid ⟨hj.below BA0, hfn, hin.below BA0, KB0, hi2.below BA0 (Nat.le_refl _), HLS, (fun f => by have := hj.2.2.1 _ f; omega), hbel.trans (BA0.mono hbel.size)⟩
        have l0 := S0.out.load
        have bo := build_one hi
        have hlti : (k : Int) < (n : Int) := by omega
        have h0i : (0 : Int) ≤ (k : Int) := by omega
        clear hj hfn hin hbel hi hi2 HLS hcell KB0 BA0 HR
        generalize rs[k] = r at *
        generalize hjs : ins rs k = js at *
        cases hw : withinB r with
        | false =>
          have HW := Lib.hid hw
          clear hw
          go_wp2_with fail
          refine (append_no F g v js _ r cs _ S0.out.j S0.out.ir HLen.out HW.out).mono ?_
          rintro e w3 ⟨rfl, F3, v3, j3, f3, n3⟩
          have S3 := Lib.hid (S0.out.app j3 f3 n3)
          have l3 := S3.out.load
          clear j3 f3 n3 l0 st0 S0 ld
          go_wp2_with fail
          refine (withinR_any r cs _ S3.out.ir).mono ?_
          rw [HW.out]
          rintro e w4 ⟨rfl, b4⟩
          have RR : Hid (RtRel w g (ins rs (k + 1)) _ w4) := Lib.hid (by rw [HNo.out HW.out]; exact ⟨F3, v3, S3.out.j.below b4, S3.out.n, S3.out.i.below b4, S3.out.old.trans (b4.mono S3.out.old.size)⟩)
          clear b4 l3 S3
          go_wp2_with fail
          go_roundw
          case rel => exact ⟨k + 1, by omega, by go_num, RR⟩
          case measure => simp [intOf]; omega
        | true =>
          have HW := Lib.hid hw
          have HG : Hid (Good r) := Lib.hid ⟨HF.out, (within_iff r).1 hw⟩
          have HD := Lib.hid (dec_enc HF.out ((within_iff r).1 hw))
          have HEL := Lib.hid (enc_len HG.out)
          clear hw
          go_wp2_with fail
          refine (append_yes F g v js _ r cs _ S0.out.j S0.out.ir S0.out.lstF HLen.out HG.out).mono ?_
          rintro e w3 ⟨rfl, F3, v3, j3, f3, n3⟩
          have S3 := Lib.hid (S0.out.app j3 f3 n3)
          have l3 := S3.out.load
          clear j3 f3 n3 l0 st0 S0 ld
          go_wp2_with fail
          refine (withinR_any r cs _ S3.out.ir).mono ?_
          rw [HW.out]
          rintro e w4 ⟨rfl, b4⟩
          have S4 := Lib.hid (S3.out.below b4)
          have l4 := S4.out.load
          clear b4 l3 S3
          go_wp2_with fail
          refine (encode_any r cs _ S4.out.ir HG.out.1 HG.out.2.lim).mono ?_
          rintro e w5 ⟨v5, rfl, o5, _, b5⟩
          obtain ⟨A5, c5, rfl, s5⟩ := own_form o5
          have S5 := Lib.hid (S4.out.below b5)
          have SL5 := Lib.hid s5
          clear b5 l4 S4 o5 s5
          go_wp2_with fail
          refine (decode_any (enc r) A5 _ c5 _ SL5.out (by have := HEL.out; omega)).mono ?_
          unfold DecPost
          rw [HD.out.1, HD.out.2]
          rintro e w6 ⟨ds, rfl, ir6, b6, _⟩
          have S6 := S5.out.below b6
          have kz7 : Blk (w6.alloc (.cells #[.int .i64 0, .int .i64 0, .int .i64 0, .int .i64 0, .int .i64 0, .string ⟨#[]⟩, .string ⟨#[]⟩, .slice none 0 0, .int .u64 0, .int .u64 0, .string ⟨#[]⟩, .slice none 0 0] 27)) w6.heap.size 27 #[.int .i64 0, .int .i64 0, .int .i64 0, .int .i64 0, .int .i64 0, .string ⟨#[]⟩, .string ⟨#[]⟩, .slice none 0 0, .int .u64 0, .int .u64 0, .string ⟨#[]⟩, .slice none 0 0] := Blk.new _ _ _
          have st7 := store_rec (cs := ds) kz7 rfl (rec_size ir6) (rec_one ir6)
          have KB7 := Blk_setRow kz7 ds
          have BA7 : Below w6.heap.size w6 ((w6.alloc (.cells #[.int .i64 0, .int .i64 0, .int .i64 0, .int .i64 0, .int .i64 0, .string ⟨#[]⟩, .string ⟨#[]⟩, .slice none 0 0, .int .u64 0, .int .u64 0, .string ⟨#[]⟩, .slice none 0 0] 27)).setRow w6.heap.size ds) := ((Below.refl _ w6).alloc (Nat.le_refl _) _).trans ((frm_setRow _ _ _).below (by simp) (fun i hi e => by omega))
          obtain ⟨W17, hW17⟩ : ∃ W1, W1 = ((w6.alloc (.cells #[.int .i64 0, .int .i64 0, .int .i64 0, .int .i64 0, .int .i64 0, .string ⟨#[]⟩, .string ⟨#[]⟩, .slice none 0 0, .int .u64 0, .int .u64 0, .string ⟨#[]⟩, .slice none 0 0] 27)).setRow w6.heap.size ds) := ⟨_, rfl⟩
          rw [← hW17] at st7 KB7 BA7
          clear hW17 kz7
          have S7 := Lib.hid (S6.below BA7)
          have ID := Lib.hid (ir6.below BA7 (Nat.le_refl _))
          have l7 := S7.out.load
          have ld7 : (loadRow 27 (.pointer (some ⟨w6.heap.size, 0, none⟩))).run Try.prog W17 = .ok (.agg ds) W17 := load_blk KB7 (rec_size ir6)
          clear S6 b6 ir6 KB7 BA7 S5 SL5
          obtain ⟨A8, c8, hv8, _⟩ := S7.out.i.form
          subst hv8
          have CS : Hid (∀ W, IsRec W ds r → IsRec W cs r → Calls Try.prog 15 #[.agg ds, .agg cs] W (RB true W)) := fun W h k => by have := sameR_any ds cs r r W h k; rw [same_self] at this; exact this
          go_wp2_with fail
          refine (CS.out _ ID.out S7.out.ir).mono ?_
          rintro e w8 ⟨rfl, b8⟩
          have S8 := Lib.hid (S7.out.below b8)
          have l8 := S8.out.load
          clear b8 st7 l7 ld7 S7 ID CS
          obtain ⟨i0, hi0, hz0, hz1, hz2⟩ := info_parts rec_info
          obtain ⟨xs, oa, ob, oc⟩ := S8.out.i
          have HOA := Lib.hid oa
          have HOB := Lib.hid ob
          have HOC := Lib.hid oc
          clear oa ob oc
          have B9 : Hid (Below w8.heap.size w8 (w8.alloc (.cells cs 27))) := Lib.hid ((Below.refl _ w8).alloc (Nat.le_refl _) _)
          have O9 := Lib.hid (own_frm HOA.out (frm_none B9.out) (fun _ _ f => f))
          have I9 : Hid (IsRec (w8.alloc (.cells cs 27)) cs r) := Lib.hid (S8.out.ir.below B9.out (Nat.le_refl _))
          have hjl : js.length ≤ 4096 := by have := HLen.out; omega
          go_wp2_with (at_builtin; refine wpList_append_sl _ rfl (.tmp 65) (.tmp 67) 29 rfl 27 i0 (.agg zeroRec) 12 152 Try.underlying29 hi0 hz0 hz1 hz2 rfl (by decide) (.slice A8 js.length c8) js.length xs rfl O9.out _ 1 1 cs.toList rfl (new_row _ _ _ rfl (rec_size I9.out)) (rec_ones I9.out) (by unfold maxLen; omega) (by omega) ?_; intro v1 w9 hown1 hg1 hat1; have G1 := Lib.hid hown1; have G2 := Lib.hid hg1; have G3 := Lib.hid hat1; clear hown1 hg1 hat1)
          have RR : Hid (RtRel w g (ins rs (k + 1)) v1 w9) := Lib.hid (by
            rw [HY.out HW.out]
            unfold RtRel
            rw [hashes_snoc]
            obtain ⟨p1, p2⟩ := in_push HOA.out HOB.out HOC.out S8.out.old.size S8.out.j.2.2.1 B9.out I9.out S8.out.ls G2.out G3.out G1.out
            exact ⟨F3, v3, S8.out.j.frm p2 (fun i f e => (HOC.out i e).2 f), S8.out.n, p1, S8.out.old.trans (p2.below S8.out.old.size fun i hi e => by have := (HOC.out i e).1; omega)⟩)
          clear l8
          go_wp2_with fail
          go_roundw
          case rel => exact ⟨k + 1, by omega, by go_num, RR⟩
          case measure => simp [intOf]; omega
      · obtain rfl : k = n := by omega
        have HL60 : Hid ((ins rs k).length ≤ 60) := Lib.hid (by have := ins_le rs k; have := HN.out; omega)
        have HGd := Lib.hid (ins_good HFit.out k)
        have J0 := Lib.hid hj
        have I0 := Lib.hid hin
        have B0 := Lib.hid hbel
        clear hj hin hbel hfn HR
        generalize ins rs k = js at *
        have HRD := Lib.hid (read_jbytes js HGd.out (by have := HL60.out; omega))
        have HBL := Lib.hid (jbytes_len js 0 HGd.out)
        obtain ⟨A4, c4, hv4, _⟩ := I0.out.form
        subst hv4
        go_wp2_with fail
        refine (bytes_any F g v js _ _ J0.out HGd.out HL60.out).mono ?_
        rintro e w3 ⟨v3, rfl, o3, _, b3⟩
        obtain ⟨A3, c3, rfl, s3⟩ := own_form o3
        obtain ⟨cn, cm⟩ := own_cap o3
        have SL3 := Lib.hid s3
        have J3 := Lib.hid (J0.out.below b3)
        have I3 := Lib.hid (I0.out.below b3)
        have B3 := Lib.hid (B0.out.trans (b3.mono B0.out.size))
        have CR := read_any (jbytes 0 js) A3 _ c3 w3 SL3.out (by have := HBL.out; have := HL60.out; omega) cn cm
        rw [HRD.out] at CR
        have HCR := Lib.hid CR
        clear CR b3 o3 s3 cn cm J0 I0 B0 SL3
        go_wp2_with fail
        refine HCR.out.mono ?_
        rintro e w4 ⟨v4, rfl, r4, b4⟩
        obtain ⟨A5, c5, hv5, s5, _⟩ := r4.form
        have hv5 : v4 = .slice A5 js.length c5 := hv5
        subst hv5
        have SO4 : Hid (RecSl w4 A5 js) := Lib.hid s5
        have J4 := Lib.hid (J3.out.below b4)
        have I4 := Lib.hid (I3.out.below b4)
        have B4 := Lib.hid (B3.out.trans (b4.mono B3.out.size))
        clear b4 r4 s5 HCR J3 I3 B3
        generalize hashes 0 js = hh at *
        go_wp2_with fail
        refine (jhash_any F g v js _ _ J4.out).mono ?_
        rintro e w5 ⟨rfl, rfl⟩
        go_wp2_with fail
        have SI4 : Hid (RecSl w4 A4 js) := Lib.hid (by obtain ⟨A9, c9, e, s9⟩ := I4.out.form; injection e with e _ _; subst e; exact s9)
        refine (sameAll_any js A4 A5 _ c4 c5 _ rfl (by have := HL60.out; omega) SI4.out SO4.out).mono ?_
        rintro e w5 ⟨rfl, b5⟩
        have J5 := Lib.hid (J4.out.below b5)
        have SI5 := Lib.hid (SI4.out.below b5 (Nat.le_refl _))
        have B5 := Lib.hid (B4.out.trans (b5.mono B4.out.size))
        clear b5 J4 I4 B4 SO4 SI4
        go_wp2_with fail
        refine (len_any F g v js _ _ J5.out).mono ?_
        rintro e w6 ⟨rfl, rfl⟩
        go_wp2_with fail
        go_loopw [100] (fun i wr => ∃ k : Nat, k ≤ js.length ∧ i = .int .i64 (k : Int) ∧ Hid (Below w5.heap.size w5 wr)) (fun i _ => js.length - (intOf i).toNat)
        case atStart => exact ⟨0, by omega, rfl, Below.refl _ _⟩
        case round =>
          obtain ⟨i, hi, rfl, HQ⟩ := hrel
          have hj60 : js.length ≤ 60 := HL60.out
          by_cases hlt : i < js.length
          · have hk1 : js[i]? = some js[i] := List.getElem?_eq_getElem hlt
            have HWI := Lib.hid (HGd.out js[i] (List.getElem_mem hlt)).2
            have J6 := Lib.hid (J5.out.below HQ.out)
            obtain ⟨b2, o2, cs2, rfl, n2, i2, c2⟩ := (SI5.out.below HQ.out (Nat.le_refl _)) i _ hk1
            have CR := Lib.hid (record_in F g v js _ i js[i] _ J6.out hk1 HWI.out)
            have h1i : (i : Int) < (js.length : Int) := by omega
            have h0i : (0 : Int) ≤ (i : Int) := by omega
            have HC2 := Lib.hid c2
            have I2 := Lib.hid i2
            have N2 := Lib.hid n2
            clear hk1 c2 i2 n2 J6
            generalize js[i] = r at *
            go_wp2_with fail
            refine CR.out.mono ?_
            rintro e w6 ⟨cs1, rfl, i1, b6⟩
            have kz7 : Blk (w6.alloc (.cells #[.int .i64 0, .int .i64 0, .int .i64 0, .int .i64 0, .int .i64 0, .string ⟨#[]⟩, .string ⟨#[]⟩, .slice none 0 0, .int .u64 0, .int .u64 0, .string ⟨#[]⟩, .slice none 0 0] 27)) w6.heap.size 27 #[.int .i64 0, .int .i64 0, .int .i64 0, .int .i64 0, .int .i64 0, .string ⟨#[]⟩, .string ⟨#[]⟩, .slice none 0 0, .int .u64 0, .int .u64 0, .string ⟨#[]⟩, .slice none 0 0] := Blk.new _ _ _
            have st7 := store_rec (cs := cs1) kz7 rfl (rec_size i1) (rec_one i1)
            have KB7 := Blk_setRow kz7 cs1
            have BA7 : Below w6.heap.size w6 ((w6.alloc (.cells #[.int .i64 0, .int .i64 0, .int .i64 0, .int .i64 0, .int .i64 0, .string ⟨#[]⟩, .string ⟨#[]⟩, .slice none 0 0, .int .u64 0, .int .u64 0, .string ⟨#[]⟩, .slice none 0 0] 27)).setRow w6.heap.size cs1) := ((Below.refl _ w6).alloc (Nat.le_refl _) _).trans ((frm_setRow _ _ _).below (by simp) (fun i hi e => by omega))
            obtain ⟨W17, hW17⟩ : ∃ W1, W1 = ((w6.alloc (.cells #[.int .i64 0, .int .i64 0, .int .i64 0, .int .i64 0, .int .i64 0, .string ⟨#[]⟩, .string ⟨#[]⟩, .slice none 0 0, .int .u64 0, .int .u64 0, .string ⟨#[]⟩, .slice none 0 0] 27)).setRow w6.heap.size cs1) := ⟨_, rfl⟩
            rw [← hW17] at st7 KB7 BA7
            clear hW17 kz7
            have BB := Lib.hid (b6.trans (BA7.mono b6.size))
            have I1 := Lib.hid (i1.below BA7 (Nat.le_refl _))
            have I3 := Lib.hid (I2.out.below BB.out (Nat.le_refl _))
            have L1 : Hid (∀ W, Reg.SB W17.drew W → (loadRow 27 (.pointer (some ⟨w6.heap.size, 0, none⟩))).run Try.prog W = .ok (.agg cs1) W) := Lib.hid (fun W hW => load_blk (KB7.below hW.old KB7.lt) (rec_size i1))
            have L2 : Hid (∀ W, Reg.SB W17.drew W → (loadRow 27 (.pointer (some ⟨b2, o2 + i * 12, none⟩))).run Try.prog W = .ok (.agg cs2) W) := Lib.hid (fun W hW => load_rec (fun j v hv => ((BB.out.trans (hW.old.mono BB.out.size)).cell (World.block_lt_of_cell? _ ⟨b2, o2 + i * 12 + j, none⟩ (HC2.out j v hv))).trans (HC2.out j v hv)) N2.out)
            have CS : Hid (∀ W, IsRec W cs1 r → IsRec W cs2 r → Calls Try.prog 15 #[.agg cs1, .agg cs2] W (RB true W)) := fun W h k => by have := sameR_any cs1 cs2 r r W h k; rw [same_self] at this; exact this
            clear b6 i1 KB7 BA7 CR
            go_wp2_with fail
            clear st7
            refine Reg.start (by kernel_rfl) ?_
            refine Reg.take 0 (v := ?_) rfl (by kernel_rfl) (fun _ _ _ h => h) rfl ?_ ?_
            rotate_left
            · intro W hW
              go_simp
              try with_reducible rfl
            try simp only [Act.put, List.setIfInBounds_toArray, List.set_cons_zero, List.set_cons_succ]
            refine Reg.take 1 (v := ?_) rfl (by kernel_rfl) (fun _ _ _ h => h) rfl ?_ ?_
            rotate_left
            · intro W hW
              go_simp
              try with_reducible rfl
            try simp only [Act.put, List.setIfInBounds_toArray, List.set_cons_zero, List.set_cons_succ]
            refine Reg.take 2 (v := ?_) rfl (by kernel_rfl) (fun _ _ _ h => h) rfl ?_ ?_
            rotate_left
            · intro W hW
              go_simp
              try with_reducible rfl
            try simp only [Act.put, List.setIfInBounds_toArray, List.set_cons_zero, List.set_cons_succ]
            refine Reg.take 3 (v := ?_) rfl (by kernel_rfl) (fun _ _ _ h => h) rfl ?_ ?_
            rotate_left
            · intro W hW
              have q := L1.out W hW
              go_simp
              try with_reducible rfl
            try simp only [Act.put, List.setIfInBounds_toArray, List.set_cons_zero, List.set_cons_succ]
            refine Reg.take 4 (v := ?_) rfl (by kernel_rfl) (fun _ _ _ h => h) rfl ?_ ?_
            rotate_left
            · intro W hW
              go_simp
              try with_reducible rfl
            try simp only [Act.put, List.setIfInBounds_toArray, List.set_cons_zero, List.set_cons_succ]
            refine Reg.take 5 (v := ?_) rfl (by kernel_rfl) (fun _ _ _ h => h) rfl ?_ ?_
            rotate_left
            · intro W hW
              go_simp
              try with_reducible rfl
            try simp only [Act.put, List.setIfInBounds_toArray, List.set_cons_zero, List.set_cons_succ]
            refine Reg.take 6 (v := ?_) rfl (by kernel_rfl) (fun _ _ _ h => h) rfl ?_ ?_
            rotate_left
            · intro W hW
              go_simp
              try with_reducible rfl
            try simp only [Act.put, List.setIfInBounds_toArray, List.set_cons_zero, List.set_cons_succ]
            refine Reg.take 7 (v := ?_) rfl (by kernel_rfl) (fun _ _ _ h => h) rfl ?_ ?_
            rotate_left
            · intro W hW
              have q := L2.out W hW
              go_simp
              try with_reducible rfl
            try simp only [Act.put, List.setIfInBounds_toArray, List.set_cons_zero, List.set_cons_succ]
            refine Reg.do_ 8 rfl (by kernel_rfl) rfl (fun K hK => ?_)
            go_simp
            refine (CS.out _ (I1.out.below (Below.refl _ W17).drew (Nat.le_refl _)) (I3.out.below (Below.refl _ W17).drew (Nat.le_refl _))).mono ?_
            rintro e w8 ⟨rfl, b8⟩
            have B8 : Hid (Below w5.heap.size w5 w8) := Lib.hid (HQ.out.trans ((BB.out.trans (((Below.refl _ W17).drew.trans b8).mono BB.out.size)).mono HQ.out.size))
            refine hK.out _ _ b8 ?_
            clear hK K b8
            try simp only [Act.put, List.setIfInBounds_toArray, List.set_cons_zero, List.set_cons_succ]
            refine Reg.take 9 (v := ?_) rfl (by kernel_rfl) (fun _ _ _ h => h) rfl ?_ ?_
            rotate_left
            · intro W hW
              go_simp
              try with_reducible rfl
            try simp only [Act.put, List.setIfInBounds_toArray, List.set_cons_zero, List.set_cons_succ]
            refine Reg.take 10 (v := ?_) rfl (by kernel_rfl) (fun _ _ _ h => h) rfl ?_ ?_
            rotate_left
            · intro W hW
              go_simp
              try with_reducible rfl
            try simp only [Act.put, List.setIfInBounds_toArray, List.set_cons_zero, List.set_cons_succ]
            refine Reg.done (by kernel_rfl) ?_
            go_wp2_with fail
            go_roundw
            case rel => exact ⟨i + 1, by omega, by go_num, B8⟩
            case measure => simp [intOf]; omega
          · obtain rfl : i = js.length := by omega
            have B6 := Lib.hid (B5.out.trans (HQ.out.mono B5.out.size))
            go_wp2_with fail
            refine (awake_any _).mono ?_
            rintro e w7 ⟨rfl, b7⟩
            have B7 := Lib.hid (B6.out.trans (b7.mono B6.out.size))
            clear b7
            go_wp2_with fail
            go_ret
            exact ⟨rfl, B7.out⟩
end Go.Proofs.Ythpmngdpgniehaa.Jr
