/-
  The walk of JournalDetects: it returns true, and changes nothing that was there. Conditions: the records lie in memory.
-/
import Derived.Test.YthpmngdpgniehaaJrCol
import Derived.Laws.OwnMore
namespace Go.Proofs.Ythpmngdpgniehaa.Jr
open Go.RowKit Go.Proofs.Ythpmngdpgniehaa.Mem Go.Proofs.Ythpmngdpgniehaa.Wr Go.Proofs.Ythpmngdpgniehaa.Opn
attribute [local go_sem ↓] exec_load_rec exec_store_rec

theorem byts_set (l : List UInt8) (j : Nat) (c : UInt8) : (byts l).set j (.int .u8 (c.toNat : Int)) = byts (l.set j c) := by
  unfold byts
  rw [List.map_set]
theorem u16_of {n : Int} (h : (Lit.int .u16 n).wf = true) : ∃ m : Nat, n = (m : Int) ∧ m < 65536 := by
  simp only [Lit.wf, IntKind.min, IntKind.max, IntKind.signed, IntKind.bits, Bool.and_eq_true] at h
  have h1 := h.1
  have h2 := h.2
  simp at h1 h2
  exact ⟨n.toNat, by omega, by omega⟩
theorem u8_of {n : Int} (h : (Lit.int .u8 n).wf = true) : ∃ c : UInt8, n = (c.toNat : Int) := by
  simp only [Lit.wf, IntKind.min, IntKind.max, IntKind.signed, IntKind.bits, Bool.and_eq_true] at h
  have h1 := h.1
  have h2 := h.2
  simp at h1 h2
  refine ⟨UInt8.ofNat n.toNat, ?_⟩
  rw [toNat_small (by omega)]
  omega
/-- the records that a journal takes, among the first k. -/
def ins (rs : List Rec) (k : Nat) : List Rec := (rs.take k).filter withinB
theorem ins_yes {rs : List Rec} {k : Nat} (hk : k < rs.length) (h : withinB rs[k] = true) : ins rs (k + 1) = ins rs k ++ [rs[k]] := by
  unfold ins
  rw [List.take_succ_eq_append_getElem hk, List.filter_append]
  simp [h]
theorem ins_no {rs : List Rec} {k : Nat} (hk : k < rs.length) (h : withinB rs[k] = false) : ins rs (k + 1) = ins rs k := by
  unfold ins
  rw [List.take_succ_eq_append_getElem hk, List.filter_append]
  simp [h]
theorem ins_le (rs : List Rec) (k : Nat) : (ins rs k).length ≤ rs.length := by
  unfold ins
  have h1 := List.length_filter_le withinB (rs.take k)
  have h2 : (rs.take k).length = min k rs.length := List.length_take
  omega
theorem ins_good {rs : List Rec} (hf : ∀ r ∈ rs, RecFit r) (k : Nat) : ∀ r ∈ ins rs k, Good r := fun r hr => by
  unfold ins at hr
  rw [List.mem_filter] at hr
  exact ⟨hf r (List.mem_of_mem_take hr.1), (within_iff r).1 hr.2⟩
/-- what a round has come to. -/
def DtRel (w : World) (g : Nat) (js : List Rec) (W : World) : Prop := ∃ F v, Jo F W g v js ((hashes 0 js : Nat) : Int) ∧ (∀ i, F i → w.heap.size ≤ i) ∧ Below w.heap.size w W
/-- the same bytes are read alike. -/
theorem set_same {bs : List UInt8} {j : Nat} {d : UInt8} (h : bs[j]? = some d) : bs.set j d = bs := by
  apply List.ext_getElem?
  intro i
  by_cases e : j = i
  · subst e
    rw [h, List.getElem?_set_self (List.getElem?_eq_some_iff.1 h).1]
  · rw [List.getElem?_set_ne e]
theorem set_other {bs : List UInt8} {j : Nat} {d c : UInt8} (h : bs[j]? = some d) (hne : d ≠ c) : bs.set j c ≠ bs := by
  intro e
  have h2 : (bs.set j c)[j]? = some c := List.getElem?_set_self (List.getElem?_eq_some_iff.1 h).1
  rw [e, h] at h2
  injection h2 with h2
  exact hne h2
theorem row_len8 {F O : Nat → Prop} {w : World} {v : Value} {rs : List Rec} (h : Row F O w v rs) : rs.length ≤ 9223372036854775807 := by
  obtain ⟨xs, L, h1, _⟩ := h
  rcases h1.2 with ⟨_, e⟩ | ⟨g, cap, cur, _, _, _, hnc, hcm, _⟩
  · omega
  · unfold maxLen at hcm
    omega
set_option maxRecDepth 100000 in
set_option maxHeartbeats 16000000 in
theorem detects_walk (rs : List Rec) (A : Option Addr) (n c at1 : Nat) (ch : UInt8) (w : World) (hn : rs.length = n) (h : RecSl w A rs) (hfit : ∀ r ∈ rs, RecFit r) (hat : at1 < 65536) :
    Calls Try.prog 7 #[.slice A n c, .int .u16 (at1 : Int), .int .u8 (ch.toNat : Int)] w (YesB w) := by
  have HN := Lib.hid hn
  have H := Lib.hid h
  have HFit := Lib.hid hfit
  obtain ⟨i0, hi0, hz0, hz1, hz2⟩ := info_parts u8_info
  cases hfw : fewB rs with
  | false =>
    clear hn h hfit
    go_enter Try.func7, Try.ntmps7
    go_wp2_with fail
    refine (few_any rs A n c _ HN.out H.out).mono ?_
    rw [hfw]
    rintro e w1 ⟨rfl, b1⟩
    have B1 := Lib.hid b1
    clear b1
    go_wp2_with fail
    refine (awake_any _).mono ?_
    rintro e wa ⟨rfl, ba⟩
    have BX := Lib.hid (B1.out.trans (ba.mono B1.out.size))
    clear ba
    go_wp2_with fail
    go_ret
    exact ⟨rfl, BX.out⟩
  | true =>
    have hn60 : n ≤ 60 := by have := (few_lim hfw).1; omega
    have HFW := Lib.hid hfw
    clear hn h hfit hfw
    go_enter Try.func7, Try.ntmps7
    go_wp2_with fail
    refine (few_any rs A n c _ HN.out H.out).mono ?_
    rw [HFW.out]
    rintro e w1 ⟨rfl, b1⟩
    have B1 := Lib.hid b1
    clear b1
    go_wp2_with fail
    refine (new_any _).mono ?_
    rintro e w2 ⟨g, rfl, hg, k2, b2⟩
    have R0 : Hid (DtRel w g (ins rs 0) w2) := Lib.hid ⟨_, _, jo_new k2, (fun i hi => by rw [hi]; exact Nat.le_trans B1.out.size hg), B1.out.trans (b2.mono B1.out.size)⟩
    clear hg k2 b2
    go_wp2_with fail
    go_loopw [29] (fun i wr => ∃ k : Nat, k ≤ n ∧ i = .int .i64 (k : Int) ∧ Hid (DtRel w g (ins rs k) wr)) (fun i _ => n - (intOf i).toNat)
    case atStart => exact ⟨0, by omega, rfl, R0⟩
    case round =>
      obtain ⟨k, hk, rfl, HR⟩ := hrel
      obtain ⟨F, v, hj, hfn, hbel⟩ := HR.out
      by_cases hlt : k < n
      · have hkr : k < rs.length := by have := HN.out; omega
        obtain ⟨b, off, cs, rfl, _, hi, hcell⟩ := H.out k _ (List.getElem?_eq_getElem hkr)
        have HLS := lst_lt hi
        have hi2 : IsRec wr cs rs[k] := hi.below hbel (Nat.le_refl _)
        have ld : (loadRow 27 (.pointer (some ⟨b, off + k * 12, none⟩))).run Try.prog wr = .ok (.agg cs) wr := load_rec (fun j u hu => (hbel.cell (World.block_lt_of_cell? w _ (hcell j u hu))).trans (hcell j u hu)) (rec_size hi)
        have HY := Lib.hid (fun h => ins_yes hkr h)
        have HNo := Lib.hid (fun h => ins_no hkr h)
        have HF := Lib.hid (HFit.out rs[k] (List.getElem_mem hkr))
        have HLen : Hid ((ins rs k).length < 4096) := Lib.hid (by have := ins_le rs k; have := HN.out; omega)
        have kz0 : Blk (wr.alloc (.cells #[.int .i64 0, .int .i64 0, .int .i64 0, .int .i64 0, .int .i64 0, .string ⟨#[]⟩, .string ⟨#[]⟩, .slice none 0 0, .int .u64 0, .int .u64 0, .string ⟨#[]⟩, .slice none 0 0] 27)) wr.heap.size 27 #[.int .i64 0, .int .i64 0, .int .i64 0, .int .i64 0, .int .i64 0, .string ⟨#[]⟩, .string ⟨#[]⟩, .slice none 0 0, .int .u64 0, .int .u64 0, .string ⟨#[]⟩, .slice none 0 0] := Blk.new _ _ _
        have st0 := store_rec (cs := cs) kz0 rfl (rec_size hi) (rec_one hi)
        have KB0 := Blk_setRow kz0 cs
        have BA0 : Below wr.heap.size wr ((wr.alloc (.cells #[.int .i64 0, .int .i64 0, .int .i64 0, .int .i64 0, .int .i64 0, .string ⟨#[]⟩, .string ⟨#[]⟩, .slice none 0 0, .int .u64 0, .int .u64 0, .string ⟨#[]⟩, .slice none 0 0] 27)).setRow wr.heap.size cs) := ((Below.refl _ wr).alloc (Nat.le_refl _) _).trans ((frm_setRow _ _ _).below (by simp) (fun i hi e => by omega))
        obtain ⟨W10, hW10⟩ : ∃ W1, W1 = ((wr.alloc (.cells #[.int .i64 0, .int .i64 0, .int .i64 0, .int .i64 0, .int .i64 0, .string ⟨#[]⟩, .string ⟨#[]⟩, .slice none 0 0, .int .u64 0, .int .u64 0, .string ⟨#[]⟩, .slice none 0 0] 27)).setRow wr.heap.size cs) := ⟨_, rfl⟩
        rw [← hW10] at st0 KB0 BA0
        clear hW10 kz0
        have S0 : Hid (St w F g v (ins rs k) (hashes 0 (ins rs k)) (.slice none 0 0) [] wr.heap.size cs rs[k] W10) := Lib.hid ⟨hj.below BA0, hfn, InRow.none _ _ _, KB0, hi2.below BA0 (Nat.le_refl _), HLS, (fun f => by have := hj.2.2.1 _ f; omega), hbel.trans (BA0.mono hbel.size)⟩
        have l0 := S0.out.load
        have hlti : (k : Int) < (n : Int) := by omega
        have h0i : (0 : Int) ≤ (k : Int) := by omega
        clear hj hfn hbel hi hi2 HLS hcell KB0 BA0 HR
        generalize rs[k] = r at *
        generalize ins rs k = js at *
        cases hw : withinB r with
        | false =>
          have HW := Lib.hid hw
          clear hw
          go_wp2_with fail
          refine (append_no F g v js _ r cs _ S0.out.j S0.out.ir HLen.out HW.out).mono ?_
          rintro e w3 ⟨rfl, F3, v3, j3, f3, n3⟩
          have S3 := Lib.hid (S0.out.app j3 f3 n3)
          have RR : Hid (DtRel w g (ins rs (k + 1)) w3) := Lib.hid (by
            rw [HNo.out HW.out]
            exact ⟨F3, v3, S3.out.j, S3.out.n, S3.out.old⟩)
          clear j3 f3 n3 l0 st0 S0 S3 ld
          go_wp2_with fail
          go_roundw
          case rel => exact ⟨k + 1, by omega, by go_num, RR⟩
          case measure => simp [intOf]; omega
        | true =>
          have HW := Lib.hid hw
          have HG : Hid (Good r) := Lib.hid ⟨HF.out, (within_iff r).1 hw⟩
          clear hw
          go_wp2_with fail
          refine (append_yes F g v js (hashes 0 js) r cs _ S0.out.j S0.out.ir S0.out.lstF HLen.out HG.out).mono ?_
          rintro e w3 ⟨rfl, F3, v3, j3, f3, n3⟩
          have S3 := Lib.hid (S0.out.app j3 f3 n3)
          have RR : Hid (DtRel w g (ins rs (k + 1)) w3) := Lib.hid (by
            rw [HY.out HW.out]
            unfold DtRel
            rw [hashes_snoc]
            exact ⟨F3, v3, S3.out.j, S3.out.n, S3.out.old⟩)
          clear j3 f3 n3 l0 st0 S0 S3 ld
          go_wp2_with fail
          go_roundw
          case rel => exact ⟨k + 1, by omega, by go_num, RR⟩
          case measure => simp [intOf]; omega
      · obtain rfl : k = n := by omega
        have HL60 : Hid ((ins rs k).length ≤ 60) := Lib.hid (by have := ins_le rs k; have := HN.out; omega)
        have HGd := Lib.hid (ins_good HFit.out k)
        have J0 := Lib.hid hj
        have B0 := Lib.hid hbel
        clear hj hbel hfn HR
        generalize ins rs k = js at *
        have HRD := Lib.hid (read_jbytes js HGd.out (by have := HL60.out; omega))
        have HBL : Hid ((jbytes 0 js).length ≤ 72008760) := Lib.hid (by have := jbytes_len js 0 HGd.out; have := HL60.out; omega)
        have HCl := Lib.hid (fun (y : List Rec) => col_of (x := js) (y := y))
        have HBY := Lib.hid (bytes_any F g v js _ _ J0.out HGd.out HL60.out)
        generalize hbs : jbytes 0 js = bs at *
        have HBS := Lib.hid hbs
        generalize hhh : hashes 0 js = hh at *
        have HHH := Lib.hid hhh
        clear hbs hhh
        go_wp2_with fail
        refine HBY.out.mono ?_
        rintro e w3 ⟨v3, rfl, o3, _, b3⟩
        obtain ⟨A3, c3, rfl, s3⟩ := own_form o3
        obtain ⟨cn, cm⟩ := own_cap o3
        have SL3 := Lib.hid s3
        have B3 := Lib.hid (B0.out.trans (b3.mono B0.out.size))
        have CR := read_any bs A3 _ c3 w3 SL3.out (by have := HBL.out; omega) cn cm
        rw [HRD.out] at CR
        have HCR := Lib.hid CR
        clear CR b3 o3 s3 cn cm J0 B0 HBY
        go_wp2_with fail
        refine HCR.out.mono ?_
        rintro e w4 ⟨v4, rfl, r4, b4⟩
        obtain ⟨A5, c5, hv5, s5, _⟩ := r4.form
        have hv5 : v4 = .slice A5 js.length c5 := hv5
        subst hv5
        have SO4 : Hid (RecSl w4 A5 js) := Lib.hid s5
        have SL4 := Lib.hid (SL3.out.below b4 (Nat.le_refl _))
        have B4 := Lib.hid (B3.out.trans (b4.mono B3.out.size))
        clear b4 r4 s5 HCR B3 SL3
        by_cases hb0 : bs.length = 0
        · have t0 : ((bs.length : Int) == 0) = true := by simp [hb0]
          have t1 : (bs.length == 0) = true := by simp [hb0]
          clear hb0
          go_wp2_with fail
          refine (awake_any _).mono ?_
          rintro e wa ⟨rfl, ba⟩
          have BX := Lib.hid (B4.out.trans (ba.mono B4.out.size))
          clear ba
          go_wp2_with fail
          go_ret
          exact ⟨rfl, BX.out⟩
        · have t0 : ((bs.length : Int) == 0) = false := beq_eq_false_iff_ne.2 (by omega)
          have t1 : (bs.length == 0) = false := beq_eq_false_iff_ne.2 (by omega)
          have hbp : 0 < bs.length := by omega
          have hbi : (0 : Int) < (bs.length : Int) := by omega
          have hb72 : (bs.length : Int) ≤ 72008760 := by have := HBL.out; omega
          have hwf : wrap64 (bs.length : Int) = (bs.length : Int) := IntWalk.wrap64_in _ ⟨by omega, by omega⟩
          have hmod : at1 % bs.length < bs.length := Nat.mod_lt _ hbp
          have hmi : (at1 : Int) % (bs.length : Int) = ((at1 % bs.length : Nat) : Int) := by rw [Int.natCast_emod]
          obtain ⟨j, hj⟩ : ∃ j, j = at1 % bs.length := ⟨_, rfl⟩
          rw [← hj] at hmod hmi
          have HJ := Lib.hid hmod
          have hjl : (j : Int) < (bs.length : Int) := by omega
          have h0j : (0 : Int) ≤ (j : Int) := by omega
          have HD : Hid (bs[j]? = some bs[j]) := Lib.hid (List.getElem?_eq_getElem hmod)
          obtain ⟨b3, o3, rfl, e3⟩ := SL4.out.open_ hbp
          have q3 : w4.cell? ⟨b3, o3 + j, none⟩ = some (.int .u8 (bs[j].toNat : Int)) := e3 j _ (byts_at hmod)
          have HO : Hid (∀ (W : World) (cs : Array Value), cs.size = 0 → (W.alloc (.cells cs 5)).ownsRow 0 5 1 (.slice (some ⟨W.heap.size, 0, none⟩) 0 0) 0 []) := fun W cs h => World.ownsRow_made W cs 0 (Nat.zero_le _) (Nat.zero_le _) h
          clear hj hb0 e3 hmod
          generalize bs[j] = d at *
          go_wp2_with (at_builtin; refine wpList_append_sl _ rfl (.tmp 71) (.tmp 72) 40 rfl 5 i0 (.int .u8 0) 1 1 Try.underlying40 hi0 hz0 hz1 hz2 rfl (by decide) (.slice (some ⟨w4.heap.size, 0, none⟩) 0 0) 0 [] rfl (HO.out w4 _ rfl) _ bs.length c3 (byts bs) rfl (SL4.out.alloc _) (byts_one _) (by have := HBL.out; unfold maxLen; omega) (by have := HBL.out; omega) ?_; intro v6 w6 hown6 hg6 hat6; rw [Nat.zero_add, List.nil_append] at hown6; obtain ⟨gd, cap, hv6⟩ : ∃ g cap, v6 = .slice (some ⟨g, 0, none⟩) bs.length cap := (by rcases hown6.2 with ⟨_, h0⟩ | ⟨g, cap, cur, e, _⟩; exact absurd h0 (by omega); exact ⟨g, cap, e⟩); subst hv6; have q6 : w6.cell? ⟨gd, j, none⟩ = some (.int .u8 (d.toNat : Int)) := (by have := hown6.cells (g := gd) rfl j _ (show (byts bs)[j]? = some (.int .u8 (d.toNat : Int)) from (by unfold byts; rw [List.getElem?_map, HD.out]; rfl)); rw [Addr.add_lit, Nat.zero_add] at this; exact this); have G1 := Lib.hid hown6; have G2 := Lib.hid hg6; have G3 := Lib.hid hat6; have f6 : w6.frozen? ⟨gd, j, none⟩ = false := (by rcases hown6.2 with ⟨h0, _⟩ | ⟨g', cap', cur, e, _, hgg, _⟩; cases h0; injection e with e1 _ _; injection e1 with e1; injection e1 with e1; subst e1; simp [World.frozen?, hgg]); clear hown6 hg6 hat6)
          have J1 := Lib.hid (G1.out.stored j (.int .u8 (ch.toNat : Int)))
          have HGE : Hid (w4.heap.size ≤ gd) := Lib.hid (by
            rcases G3.out with e | e
            · exact Nat.le_of_eq (Option.some.inj e).symm
            · have h5 : gd = (w4.alloc _).heap.size := Option.some.inj e
              simp at h5
              omega)
          have B6 : Hid (Below w4.heap.size w4 w6) := Lib.hid (((Frm.refl (fun i => w4.heap.size ≤ i) w4).alloc _ |>.trans (Frm.of_grown (F := fun i => w4.heap.size ≤ i) G2.out fun i hi => Nat.le_of_eq (Option.some.inj hi)) (fun _ _ h => h)).below (Nat.le_refl _) fun i hi f => by omega)
          have B7 : Hid (Below w4.heap.size w4 (w6.setCell ⟨gd, j, none⟩ (.int .u8 (ch.toNat : Int)))) := Lib.hid (B6.out.setCell (p := ⟨gd, _, none⟩) HGE.out _)
          have HCap := Lib.hid (own_cap G1.out)
          have SN : Hid (Sl (w6.setCell ⟨gd, j, none⟩ (.int .u8 (ch.toNat : Int))) 1 (some ⟨gd, 0, none⟩) bs.length (byts (bs.set j ch))) := Lib.hid (by
            have h5 := Sl.of_own J1.out.1
            rw [byts_set] at h5
            exact h5)
          have SO7 := Lib.hid (SO4.out.below B7.out (Nat.le_refl _))
          have BX7 := Lib.hid (B4.out.trans (B7.out.mono B4.out.size))
          clear q6 f6 G1 G2 G3 J1 q3 hmi hjl B6 B7 SO4 B4 HGE
          generalize w6.setCell ⟨gd, j, none⟩ (.int .u8 (ch.toNat : Int)) = w7 at *
          have CR2 := Lib.hid (read_any (bs.set j ch) _ bs.length cap w7 SN.out (by omega) HCap.out.1 HCap.out.2)
          refine CR2.out.mono ?_
          clear CR2
          generalize hR : readN (bs.set j ch) = R
          rintro e w8 ⟨v8, rfl, r8, b8⟩
          have HR2 := Lib.hid hR
          obtain ⟨A8, c8, rfl, s8, _⟩ := r8.form
          have HL8 := Lib.hid (row_len8 r8)
          have SX8 := Lib.hid (SO7.out.below b8 (Nat.le_refl _))
          have SY8 := Lib.hid s8
          have B8 := Lib.hid (BX7.out.trans (b8.mono BX7.out.size))
          clear hR r8 s8 b8 BX7 SO7 SN
          by_cases hd : d = ch
          · subst hd
            have hRR : R = (js, hh, 0) := by rw [← HR2.out, set_same HD.out]; exact HRD.out
            subst hRR
            go_wp2_with fail
            refine (sameAll_any js A5 A8 _ c5 c8 _ rfl HL8.out SX8.out SY8.out).mono ?_
            rintro e w9 ⟨rfl, b9⟩
            have B9 := Lib.hid (B8.out.trans (b9.mono B8.out.size))
            clear b9
            go_wp2_with fail
            refine (awake_any _).mono ?_
            rintro e wa ⟨rfl, ba⟩
            have BX := Lib.hid (B9.out.trans (ba.mono B9.out.size))
            clear ba
            go_wp2_with fail
            go_ret
            exact ⟨rfl, BX.out⟩
          · have td : ((d.toNat : Int) == (ch.toNat : Int)) = false := by
              rw [beq_eq_false_iff_ne]
              intro h
              exact hd (UInt8.toNat_inj.1 (by omega))
            have HNE := Lib.hid (set_other HD.out hd)
            by_cases he : R.2.2 = 0
            · have te : (R.2.2 == 0) = true := by simp [he]
              by_cases hg2 : hh = R.2.1
              · have tg : ((hh : Int) == (R.2.1 : Int)) = true := by simp [hg2]
                have tg1 : (hh == R.2.1) = true := by simp [hg2]
                have HBack := readN_back (bs := bs.set j ch) (by rw [HR2.out]; exact he)
                rw [HR2.out] at HBack
                have HGY : Hid (∀ r ∈ R.1, Good r) := Lib.hid (by have := readN_good (bs := bs.set j ch) (by rw [List.length_set]; omega); rw [HR2.out] at this; exact this)
                have HYL : Hid (R.1.length ≤ 100000000) := Lib.hid (by have h1 := jbytes_more R.1 0; rw [← HBack.2, List.length_set] at h1; omega)
                have HCol : Hid (∃ i k, k < i ∧ Hit (items 0 js ++ items 0 R.1) i k) := Lib.hid (HCl.out R.1 (by rw [hg2]; exact HBack.1) (by rw [← HBack.2, List.length_set]) (by rw [← HBack.2]; exact fun e => HNE.out e.symm))
                clear hd HBack hg2 he
                go_wp2_with fail
                refine (collides_any js R.1 A5 A8 _ _ c5 c8 _ rfl rfl SX8.out SY8.out HGd.out HGY.out (by have := HL60.out; omega) HYL.out HCol.out).mono ?_
                rintro e w9 ⟨rfl, b9⟩
                have B9 := Lib.hid (B8.out.trans (b9.mono B8.out.size))
                clear b9
                go_wp2_with fail
                refine (awake_any _).mono ?_
                rintro e wa ⟨rfl, ba⟩
                have BX := Lib.hid (B9.out.trans (ba.mono B9.out.size))
                clear ba
                go_wp2_with fail
                go_ret
                exact ⟨rfl, BX.out⟩
              · have tg : ((hh : Int) == (R.2.1 : Int)) = false := by simp; omega
                have tg1 : (hh == R.2.1) = false := by simp [hg2]
                clear hd hg2 he
                go_wp2_with fail
                refine (awake_any _).mono ?_
                rintro e wa ⟨rfl, ba⟩
                have BX := Lib.hid (B8.out.trans (ba.mono B8.out.size))
                clear ba
                go_wp2_with fail
                go_ret
                exact ⟨rfl, BX.out⟩
            · have te : (R.2.2 == 0) = false := by simp [he]
              clear hd he
              go_wp2_with fail
              refine (awake_any _).mono ?_
              rintro e wa ⟨rfl, ba⟩
              have BX := Lib.hid (B8.out.trans (ba.mono B8.out.size))
              clear ba
              go_wp2_with fail
              go_ret
              exact ⟨rfl, BX.out⟩
end Go.Proofs.Ythpmngdpgniehaa.Jr
