/-
  The walk of JournalBegins: it returns true, and changes nothing that was there. Conditions: the records lie in memory.
-/
import Derived.Test.YthpmngdpgniehaaJrSt
namespace Go.Proofs.Ythpmngdpgniehaa.Jr
open Go.RowKit Go.Proofs.Ythpmngdpgniehaa.Mem Go.Proofs.Ythpmngdpgniehaa.Wr Go.Proofs.Ythpmngdpgniehaa.Opn
attribute [local go_sem ↓] exec_load_rec exec_store_rec exec_cut

/-- x[:hi] begins where x begins. -/
theorem run_cut_pre {P : Program} {t e : TypeId} {size : Nat} (ht : P.underlying t = some (.slice e)) (hsz : (P.info? e).map (·.size) = some size) (A : Option Addr) (n c hi : Nat) (h2 : hi ≤ c) :
    ∃ A2 c2, (∀ W, (cutAt t (.slice A n c) none (some (.int .i64 (hi : Int))) none).run P W = .ok (.slice A2 hi c2) W) ∧ ∀ a, A = some a → A2 = some a := by
  refine ⟨if c = 0 then A else A.map (·.add (0 * size)), c - 0, fun W => ?_, fun a ha => ?_⟩
  · have hu := elem_under ht
    rw [cutAt, run_sliceAt_slice _ _ _ _ _ _ hu, run_slice_h _ _ _ _ _ hu _ _ (by omega) (by omega), run_size ht hsz]
    simp [Result.andThen, sliced]
  · subst ha
    split
    · rfl
    · simp [Addr.add]
theorem recSl_take {w : World} {A A2 : Option Addr} {rs : List Rec} (k : Nat) (h : RecSl w A rs) (hA : ∀ a, A = some a → A2 = some a) : RecSl w A2 (rs.take k) := by
  intro i r hi
  rw [List.getElem?_take] at hi
  split at hi
  · obtain ⟨b, off, cs, e, r1⟩ := h i r hi
    exact ⟨b, off, cs, hA _ e, r1⟩
  · cases hi
theorem u16_of {n : Int} (h : (Lit.int .u16 n).wf = true) : ∃ m : Nat, n = (m : Int) ∧ m < 65536 := by
  simp only [Lit.wf, IntKind.min, IntKind.max, IntKind.signed, IntKind.bits, Bool.and_eq_true] at h
  have h1 := h.1
  have h2 := h.2
  simp at h1 h2
  exact ⟨n.toNat, by omega, by omega⟩
/-- where the last frame begins, and the hash ahead of it. -/
def bgF (rs : List Rec) (k : Nat) : Nat := if k = rs.length then (jbytes 0 (rs.take (rs.length - 1))).length else 0
def bgH (rs : List Rec) (k : Nat) : Nat := if k = rs.length then hashes 0 (rs.take (rs.length - 1)) else 0
theorem bg_mid {rs : List Rec} {k : Nat} (h : k + 1 < rs.length) : bgF rs (k + 1) = bgF rs k ∧ bgH rs (k + 1) = bgH rs k := by
  unfold bgF bgH
  rw [if_neg (by omega), if_neg (by omega), if_neg (by omega), if_neg (by omega)]
  exact ⟨rfl, rfl⟩
theorem bg_end {rs : List Rec} {k : Nat} (h : k + 1 = rs.length) : bgF rs (k + 1) = (jbytes 0 (rs.take k)).length ∧ bgH rs (k + 1) = hashes 0 (rs.take k) := by
  unfold bgF bgH
  rw [if_pos h, if_pos h, ← h, Nat.add_sub_cancel]
  exact ⟨rfl, rfl⟩
theorem bg_zero {rs : List Rec} (h : 0 < rs.length) : bgF rs 0 = 0 ∧ bgH rs 0 = 0 := by
  unfold bgF bgH
  rw [if_neg (by omega), if_neg (by omega)]
  exact ⟨rfl, rfl⟩
/-- what a round has come to. -/
def BgRel (w : World) (g : Nat) (js : List Rec) (wr : World) : Prop := (∃ F v, Jo F wr g v js ((hashes 0 js : Nat) : Int) ∧ ∀ i, F i → w.heap.size ≤ i) ∧ Below w.heap.size w wr ∧ ∀ r ∈ js, withinB r = true
theorem cut_byts {W : World} {A A2 : Option Addr} {n c c2 k : Nat} {bs : List UInt8} (h : CutOf A n c 0 k 1 A2 c2) (hs : Sl W 1 A n (byts bs)) (hk : k ≤ n) : Sl W 1 A2 k (byts (bs.take k)) := by
  have := h.cells W _ hs hk
  rw [Nat.sub_zero, Nat.zero_mul, List.drop_zero, Nat.mul_one] at this
  unfold byts at this ⊢
  rw [List.map_take]
  exact this
set_option maxRecDepth 100000 in
set_option maxHeartbeats 16000000 in
theorem begins_walk (rs : List Rec) (A : Option Addr) (n c at1 : Nat) (w : World) (hn : rs.length = n) (h : RecSl w A rs) (hfit : ∀ r ∈ rs, RecFit r) (hc : n ≤ c) (hat : at1 < 65536) :
    Calls Try.prog 8 #[.slice A n c, .int .u16 (at1 : Int)] w (YesB w) := by
  have HN := Lib.hid hn
  have H := Lib.hid h
  have HFit := Lib.hid hfit
  cases hfw : fewB rs with
  | false =>
    clear hn h hfit
    go_enter Try.func8, Try.ntmps8
    go_wp2_with fail
    refine (few_any rs A n c _ HN.out H.out).mono ?_
    rw [hfw]
    rintro e w1 ⟨rfl, b1⟩
    have B1 := Lib.hid b1
    clear b1
    go_wp2_with fail
    refine (awake_any _).mono ?_
    rintro e wa ⟨rfl, ba⟩
    have BX := Lib.hid (B1.out.trans (ba.mono B1.out.size))
    clear ba
    go_wp2_with fail
    go_ret
    exact ⟨rfl, BX.out⟩
  | true =>
    have hn60 : n ≤ 60 := by have := (few_lim hfw).1; omega
    have HFW := Lib.hid hfw
    clear hn h hfit hfw
    by_cases hn0 : n = 0
    · subst hn0
      go_enter Try.func8, Try.ntmps8
      go_wp2_with fail
      refine (few_any rs A 0 c _ HN.out H.out).mono ?_
      rw [HFW.out]
      rintro e w1 ⟨rfl, b1⟩
      have B1 := Lib.hid b1
      clear b1
      go_wp2_with fail
      refine (awake_any _).mono ?_
      rintro e wa ⟨rfl, ba⟩
      have BX := Lib.hid (B1.out.trans (ba.mono B1.out.size))
      clear ba
      go_wp2_with fail
      go_ret
      exact ⟨rfl, BX.out⟩
    · obtain ⟨m, hm⟩ : ∃ m, n = m + 1 := ⟨n - 1, by omega⟩
      have HM := Lib.hid hm
      have hm1 : (n : Int) - 1 = (m : Int) := by omega
      have tn0 : ((n : Int) == 0) = false := by simp; omega
      have tn1 : (n == 0) = false := by simp; omega
      clear hn0 hm
      go_enter Try.func8, Try.ntmps8
      go_wp2_with fail
      refine (few_any rs A n c _ HN.out H.out).mono ?_
      rw [HFW.out]
      rintro e w1 ⟨rfl, b1⟩
      have B1 := Lib.hid b1
      clear b1
      go_wp2_with fail
      refine (new_any _).mono ?_
      rintro e w2 ⟨g, rfl, hg, k2, b2⟩
      have R0 : Hid (BgRel w g (rs.take 0) w2) := Lib.hid ⟨⟨_, _, jo_new k2, (fun i hi => by rw [hi]; exact Nat.le_trans B1.out.size hg)⟩, B1.out.trans (b2.mono B1.out.size), fun r hr => by simp at hr⟩
      have Z0 := Lib.hid (bg_zero (rs := rs) (by have := HN.out; have := HM.out; omega))
      clear hg k2 b2
      go_wp2_with fail
      go_loopw [6, 7, 32] (fun fv hv i wr => ∃ k : Nat, k ≤ n ∧ fv = .int .i64 ((bgF rs k : Nat) : Int) ∧ hv = .int .u64 ((bgH rs k : Nat) : Int) ∧ i = .int .i64 (k : Int) ∧ Hid (BgRel w g (rs.take k) wr)) (fun _ _ i _ => n - (intOf i).toNat)
      case atStart => exact ⟨0, by omega, by rw [Z0.out.1]; rfl, by rw [Z0.out.2]; rfl, rfl, R0⟩
      case round =>
        obtain ⟨k, hk, rfl, rfl, rfl, HR⟩ := hrel
        obtain ⟨⟨F, v, hj, hfn⟩, hbel, hwi⟩ := HR.out
        by_cases hlt : k < n
        · have hkr : k < rs.length := by have := HN.out; omega
          obtain ⟨b, off, cs, rfl, _, hi, hcell⟩ := H.out k _ (List.getElem?_eq_getElem hkr)
          have HLS := lst_lt hi
          have hi2 : IsRec wr cs rs[k] := hi.below hbel (Nat.le_refl _)
          have ld : (loadRow 27 (.pointer (some ⟨b, off + k * 12, none⟩))).run Try.prog wr = .ok (.agg cs) wr := load_rec (fun j u hu => (hbel.cell (World.block_lt_of_cell? w _ (hcell j u hu))).trans (hcell j u hu)) (rec_size hi)
          have HF := Lib.hid (HFit.out rs[k] (List.getElem_mem hkr))
          have HT : Hid (rs.take (k + 1) = rs.take k ++ [rs[k]]) := Lib.hid (List.take_succ_eq_append_getElem hkr)
          have HLen : Hid ((rs.take k).length ≤ 60) := Lib.hid (by rw [List.length_take]; omega)
          have HWI := Lib.hid hwi
          have HGd : Hid (∀ r ∈ rs.take k, Good r) := Lib.hid (fun r hr => ⟨HFit.out r (List.mem_of_mem_take hr), (within_iff r).1 (hwi r hr)⟩)
          have kz0 : Blk (wr.alloc (.cells #[.int .i64 0, .int .i64 0, .int .i64 0, .int .i64 0, .int .i64 0, .string ⟨#[]⟩, .string ⟨#[]⟩, .slice none 0 0, .int .u64 0, .int .u64 0, .string ⟨#[]⟩, .slice none 0 0] 27)) wr.heap.size 27 #[.int .i64 0, .int .i64 0, .int .i64 0, .int .i64 0, .int .i64 0, .string ⟨#[]⟩, .string ⟨#[]⟩, .slice none 0 0, .int .u64 0, .int .u64 0, .string ⟨#[]⟩, .slice none 0 0] := Blk.new _ _ _
          have st0 := store_rec (cs := cs) kz0 rfl (rec_size hi) (rec_one hi)
          have KB0 := Blk_setRow kz0 cs
          have BA0 : Below wr.heap.size wr ((wr.alloc (.cells #[.int .i64 0, .int .i64 0, .int .i64 0, .int .i64 0, .int .i64 0, .string ⟨#[]⟩, .string ⟨#[]⟩, .slice none 0 0, .int .u64 0, .int .u64 0, .string ⟨#[]⟩, .slice none 0 0] 27)).setRow wr.heap.size cs) := ((Below.refl _ wr).alloc (Nat.le_refl _) _).trans ((frm_setRow _ _ _).below (by simp) (fun i hi e => by omega))
          obtain ⟨W10, hW10⟩ : ∃ W1, W1 = ((wr.alloc (.cells #[.int .i64 0, .int .i64 0, .int .i64 0, .int .i64 0, .int .i64 0, .string ⟨#[]⟩, .string ⟨#[]⟩, .slice none 0 0, .int .u64 0, .int .u64 0, .string ⟨#[]⟩, .slice none 0 0] 27)).setRow wr.heap.size cs) := ⟨_, rfl⟩
          rw [← hW10] at st0 KB0 BA0
          clear hW10 kz0
          have S0 : Hid (St w F g v (rs.take k) (hashes 0 (rs.take k)) (.slice none 0 0) [] wr.heap.size cs rs[k] W10) := Lib.hid ⟨hj.below BA0, hfn, InRow.none _ _ _, KB0, hi2.below BA0 (Nat.le_refl _), HLS, (fun f => by have := hj.2.2.1 _ f; omega), hbel.trans (BA0.mono hbel.size)⟩
          have l0 := S0.out.load
          have hlti : (k : Int) < (n : Int) := by omega
          have h0i : (0 : Int) ≤ (k : Int) := by omega
          have HKM : Hid (¬ k = m → k + 1 < rs.length) := Lib.hid (fun e => by have := HN.out; have := HM.out; omega)
          have HKE : Hid (k = m → k + 1 = rs.length) := Lib.hid (fun e => by have := HN.out; have := HM.out; omega)
          clear hj hfn hbel hwi hi hi2 HLS hcell KB0 BA0 HR
          generalize rs[k] = r at *
          generalize hjs : rs.take k = js at *
          have HJS := Lib.hid hjs
          clear hjs
          cases hw : withinB r with
          | false =>
            go_wp2_with fail
            refine (withinR_any r cs _ S0.out.ir).mono ?_
            rw [hw]
            rintro e w4 ⟨rfl, b4⟩
            have B4 := Lib.hid (S0.out.old.trans (b4.mono S0.out.old.size))
            clear b4 l0 st0
            go_wp2_with fail
            refine (awake_any _).mono ?_
            rintro e wa ⟨rfl, ba⟩
            have BX := Lib.hid (B4.out.trans (ba.mono B4.out.size))
            clear ba
            go_wp2_with fail
            go_ret
            exact ⟨rfl, BX.out⟩
          | true =>
            have HW := Lib.hid hw
            have HG : Hid (Good r) := Lib.hid ⟨HF.out, (within_iff r).1 hw⟩
            clear hw
            go_wp2_with fail
            refine (withinR_any r cs _ S0.out.ir).mono ?_
            rw [HW.out]
            rintro e w4 ⟨rfl, b4⟩
            have S4 := Lib.hid (S0.out.below b4)
            clear b4 l0 st0 S0 ld
            have HEnd : Hid (∀ W F9 v9, Jo F9 W g v9 (js ++ [r]) ((hashN (hashes 0 js) (enc r) : Nat) : Int) → (∀ i, F9 i → w.heap.size ≤ i) → Below w.heap.size w W → BgRel w g (rs.take (k + 1)) W) := Lib.hid (fun W F9 v9 j9 n9 b9 => by
              rw [HT.out]
              refine ⟨⟨F9, v9, by rw [hashes_snoc]; exact j9, n9⟩, b9, fun x hx => ?_⟩
              rcases List.mem_append.1 hx with h | h
              · exact HWI.out x h
              · rw [List.mem_singleton.1 h]
                exact HW.out)
            by_cases hkm : k = m
            · have te : ((k : Int) == (m : Int)) = true := by simp [hkm]
              have te1 : (k == m) = true := by simp [hkm]
              have HBE := Lib.hid (bg_end (HKE.out hkm))
              clear hkm
              go_wp2_with fail
              refine (bytes_any F g v js _ _ S4.out.j HGd.out HLen.out).mono ?_
              rintro e w5 ⟨v5, rfl, o5, _, b5⟩
              obtain ⟨A5, c5, rfl, _⟩ := own_form o5
              have S5 := Lib.hid (S4.out.below b5)
              clear b5 o5 S4
              generalize hjb : (jbytes 0 js).length = jb at *
              have HJB := Lib.hid hjb
              clear hjb
              go_wp2_with fail
              refine (jhash_any F g v js _ _ S5.out.j).mono ?_
              rintro e w6 ⟨rfl, rfl⟩
              have l5 := S5.out.load
              go_wp2_with fail
              refine (append_yes F g v js _ r cs _ S5.out.j S5.out.ir S5.out.lstF (by have := HLen.out; omega) HG.out).mono ?_
              rintro e w7 ⟨rfl, F7, v7, j7, f7, n7⟩
              have S7 := Lib.hid (S5.out.app j7 f7 n7)
              have RR := Lib.hid (HEnd.out _ F7 v7 S7.out.j S7.out.n S7.out.old)
              clear j7 f7 n7 l5 S5 S7
              go_wp2_with fail
              go_roundw
              case rel => exact ⟨k + 1, by omega, by rw [HBE.out.1, HJS.out, HJB.out], by rw [HBE.out.2, HJS.out], by go_num, RR⟩
              case measure => simp [intOf]; omega
            · have te : ((k : Int) == (m : Int)) = false := by simp; omega
              have te1 : (k == m) = false := by simp [hkm]
              have HBE := Lib.hid (bg_mid (HKM.out hkm))
              have l5 := S4.out.load
              clear hkm
              go_wp2_with fail
              refine (append_yes F g v js _ r cs _ S4.out.j S4.out.ir S4.out.lstF (by have := HLen.out; omega) HG.out).mono ?_
              rintro e w7 ⟨rfl, F7, v7, j7, f7, n7⟩
              have S7 := Lib.hid (S4.out.app j7 f7 n7)
              have RR := Lib.hid (HEnd.out _ F7 v7 S7.out.j S7.out.n S7.out.old)
              clear j7 f7 n7 l5 S4 S7
              go_wp2_with fail
              go_roundw
              case rel => exact ⟨k + 1, by omega, by rw [HBE.out.1], by rw [HBE.out.2], by go_num, RR⟩
              case measure => simp [intOf]; omega
        · obtain rfl : k = n := by omega
          have hkl : rs.take k = rs := List.take_of_length_le (by have := HN.out; omega)
          rw [hkl] at hj hwi
          have hmr : m < rs.length := by have := HN.out; have := HM.out; omega
          have hsp : rs = rs.take m ++ [rs[m]] := by
            have h1 := List.take_succ_eq_append_getElem hmr
            rw [← HM.out, hkl] at h1
            exact h1
          have hbe := bg_end (rs := rs) (k := m) (by have := HN.out; have := HM.out; omega)
          rw [← HM.out] at hbe
          have hgood : ∀ r ∈ rs, Good r := fun r hr => ⟨HFit.out r hr, (within_iff r).1 (hwi r hr)⟩
          have HGI : Hid (∀ r ∈ rs.take m, Good r) := Lib.hid (fun r hr => hgood r (List.mem_of_mem_take hr))
          have HGr := Lib.hid (hgood rs[m] (List.getElem_mem hmr))
          have HIL : Hid ((rs.take m).length ≤ 59) := Lib.hid (by rw [List.length_take]; have := HM.out; omega)
          have HIL2 : Hid ((rs.take m).length = m) := Lib.hid (by rw [List.length_take]; omega)
          have HBY := Lib.hid (bytes_any F g v rs _ _ hj hgood (by have := HN.out; omega))
          have HB0 := Lib.hid hbel
          have hjb : jbytes 0 rs = jbytes 0 (rs.take m) ++ frame (cont (hashes 0 (rs.take m)) rs[m]) := by
            conv => lhs; rw [hsp]
            exact jbytes_snoc _ _ _
          have HRD := Lib.hid (read_jbytes (rs.take m) HGI.out (by have := HIL.out; omega))
          have HCut := Lib.hid (fun (q : Nat) (h1 : 0 < q) (h2 : q < (frame (cont (hashes 0 (rs.take m)) rs[m])).length) => read_cut (rs.take m) rs[m] q HGI.out HGr.out (by have := HIL.out; omega) h1 h2)
          have HPL := Lib.hid (jbytes_len (rs.take m) 0 HGI.out)
          have HFL := Lib.hid (frame_le HGr.out (hashes 0 (rs.take m)))
          have HFP := Lib.hid (frame_pos (cont (hashes 0 (rs.take m)) rs[m]))
          have HLT := Lib.hid H.out
          rw [hbe.1, hbe.2]
          clear hj hfn hwi hgood hsp hbe hkl HR hbel
          generalize hashes 0 (rs.take m) = hh at *
          generalize frame (cont hh rs[m]) = Fr at *
          generalize jbytes 0 (rs.take m) = P at *
          generalize jbytes 0 rs = bs at *
          have HBS := Lib.hid hjb
          have HBL : Hid (bs.length = P.length + Fr.length) := Lib.hid (by rw [hjb, List.length_append])
          have HP7 : Hid (P.length ≤ 71000000) := Lib.hid (by have := HPL.out; have := HIL.out; omega)
          have hlp : (P.length : Int) < (bs.length : Int) := by have := HBL.out; have := HFP.out; omega
          have tlp : decide ((bs.length : Int) ≤ (P.length : Int)) = false := by simp; have := HBL.out; have := HFP.out; omega
          have hsub : (bs.length : Int) - (P.length : Int) = (Fr.length : Int) := by have := HBL.out; omega
          have hfr0 : (0 : Int) < (Fr.length : Int) := by have := HFP.out; omega
          have hwf : wrap64 (Fr.length : Int) = (Fr.length : Int) := IntWalk.wrap64_in _ ⟨by omega, by have := HFL.out; omega⟩
          have hmod : at1 % Fr.length < Fr.length := Nat.mod_lt _ HFP.out
          have hmi : (at1 : Int) % (Fr.length : Int) = ((at1 % Fr.length : Nat) : Int) := by rw [Int.natCast_emod]
          obtain ⟨q, hq⟩ : ∃ q, q = at1 % Fr.length := ⟨_, rfl⟩
          rw [← hq] at hmod hmi
          have HQL := Lib.hid hmod
          clear hjb hq hmod
          go_wp2_with fail
          refine HBY.out.mono ?_
          rintro e w3 ⟨v3, rfl, o3, _, b3⟩
          obtain ⟨A3, c3, rfl, s3⟩ := own_form o3
          obtain ⟨cn, cm⟩ := own_cap o3
          obtain ⟨A4, c4, cut4, cu4⟩ := run_cut_to (P := Try.prog) (t := 40) Try.underlying40 (size := 1) (by kernel_rfl) A3 bs.length c3 P.length (by have := HBL.out; omega)
          obtain ⟨A5, c5, cut5, cu5⟩ := run_cut_to (P := Try.prog) (t := 40) Try.underlying40 (size := 1) (by kernel_rfl) A3 bs.length c3 (P.length + q) (by have := HBL.out; have := HQL.out; omega)
          obtain ⟨A6, c6, cut6, hA6⟩ := run_cut_pre (P := Try.prog) (t := 29) Try.underlying29 size_rec A k c m (by have := HM.out; omega)
          have S4 : Hid (Sl w3 1 A4 P.length (byts P)) := Lib.hid (by
            have := cut_byts cu4 s3 (by have := HBL.out; omega)
            rw [HBS.out, Wr.take_len _ _ rfl] at this
            exact this)
          have S5 : Hid (Sl w3 1 A5 (P.length + q) (byts (P ++ Fr.take q))) := Lib.hid (by
            have := cut_byts cu5 s3 (by have := HBL.out; have := HQL.out; omega)
            rw [HBS.out, List.take_length_add_append] at this
            exact this)
          have CR := read_any P A4 P.length c4 w3 S4.out (by have := HP7.out; omega) (by have := cu4.cap; omega) (by have := cu4.cap; omega)
          rw [HRD.out] at CR
          have HCR := Lib.hid CR
          have HK5 : Hid (P.length + q ≤ c5 ∧ c5 ≤ 9223372036854775807) := Lib.hid ⟨by have := cu5.cap; omega, by have := cu5.cap; omega⟩
          rw [Int.natCast_add] at cut5
          have B3 := Lib.hid (HB0.out.trans (b3.mono HB0.out.size))
          have HL3 := Lib.hid (recSl_take m (HLT.out.below B3.out (Nat.le_refl _)) hA6)
          have hpb : (P.length : Int) ≤ 71000000 := by have := HP7.out; omega
          have hqb : (q : Int) ≤ 1200146 := by have := HQL.out; have := HFL.out; omega
          clear CR b3 o3 s3 cn cm cu4 cu5 hA6
          go_wp2_with fail
          refine HCR.out.mono ?_
          rintro e w4 ⟨v4, rfl, r4, b4⟩
          obtain ⟨A7, c7, hv7, s7, _⟩ := r4.form
          have hv8 : v4 = .slice A7 m c7 := by
            rw [hv7]
            show Value.slice A7 (rs.take m).length c7 = _
            rw [HIL2.out]
          clear hv7
          subst hv8
          have SO4 : Hid (RecSl w4 A7 (rs.take m)) := Lib.hid s7
          have HL4 := Lib.hid (HL3.out.below b4 (Nat.le_refl _))
          have S5b := Lib.hid (S5.out.below b4 (Nat.le_refl _))
          have B4 := Lib.hid (B3.out.trans (b4.mono B3.out.size))
          clear b4 r4 s7 HCR B3 S4 S5 HL3 cut4
          go_wp2_with fail
          refine (sameAll_any (rs.take m) A7 A6 m c7 c6 _ HIL2.out (by have := HIL2.out; have := HIL.out; omega) SO4.out HL4.out).mono ?_
          rintro e w5 ⟨rfl, b5⟩
          have HL5 := Lib.hid (HL4.out.below b5 (Nat.le_refl _))
          have S5c := Lib.hid (S5b.out.below b5 (Nat.le_refl _))
          have B5 := Lib.hid (B4.out.trans (b5.mono B4.out.size))
          clear b5 SO4 HL4 S5b B4
          have CR2 := Lib.hid (read_any (P ++ Fr.take q) A5 (P.length + q) c5 w5 S5c.out (by have := HP7.out; have := HQL.out; have := HFL.out; omega) HK5.out.1 HK5.out.2)
          by_cases hq0 : q = 0
          · have tq : ((q : Int) == 0) = true := by simp [hq0]
            have tq1 : (q == 0) = true := by simp [hq0]
            have HR6 : Hid (readN (P ++ Fr.take q) = (rs.take m, hh, 0)) := Lib.hid (by rw [hq0, List.take_zero, List.append_nil]; exact HRD.out)
            have C6 := CR2.out
            rw [HR6.out] at C6
            have HC6 := Lib.hid C6
            clear C6 CR2 hq0
            go_wp2_with fail
            refine HC6.out.mono ?_
            rintro e w6 ⟨v6, rfl, r6, b6⟩
            obtain ⟨A8, c8, hv8, s8, _⟩ := r6.form
            have hv9 : v6 = .slice A8 m c8 := by
              rw [hv8]
              show Value.slice A8 (rs.take m).length c8 = _
              rw [HIL2.out]
            clear hv8
            subst hv9
            have SO6 : Hid (RecSl w6 A8 (rs.take m)) := Lib.hid s8
            have HL6 := Lib.hid (HL5.out.below b6 (Nat.le_refl _))
            have B6 := Lib.hid (B5.out.trans (b6.mono B5.out.size))
            clear b6 r6 s8 HC6 B5 cut5 HL5
            go_wp2_with fail
            refine (sameAll_any (rs.take m) A8 A6 m c8 c6 _ HIL2.out (by have := HIL2.out; have := HIL.out; omega) SO6.out HL6.out).mono ?_
            rintro e w7 ⟨rfl, b7⟩
            have B7 := Lib.hid (B6.out.trans (b7.mono B6.out.size))
            clear b7 SO6 HL6 B6
            go_wp2_with fail
            refine (awake_any _).mono ?_
            rintro e wa ⟨rfl, ba⟩
            have BX := Lib.hid (B7.out.trans (ba.mono B7.out.size))
            clear ba
            go_wp2_with fail
            go_ret
            exact ⟨rfl, BX.out⟩
          · have tq : ((q : Int) == 0) = false := by simp; omega
            have tq1 : (q == 0) = false := by simp; omega
            have HR6 : Hid (readN (P ++ Fr.take q) = (rs.take m, hh, 28)) := Lib.hid (HCut.out q (by omega) HQL.out)
            have C6 := CR2.out
            rw [HR6.out] at C6
            have HC6 := Lib.hid C6
            clear C6 CR2 hq0
            go_wp2_with fail
            refine HC6.out.mono ?_
            rintro e w6 ⟨v6, rfl, r6, b6⟩
            obtain ⟨A8, c8, hv8, s8, _⟩ := r6.form
            have hv9 : v6 = .slice A8 m c8 := by
              rw [hv8]
              show Value.slice A8 (rs.take m).length c8 = _
              rw [HIL2.out]
            clear hv8
            subst hv9
            have SO6 : Hid (RecSl w6 A8 (rs.take m)) := Lib.hid s8
            have HL6 := Lib.hid (HL5.out.below b6 (Nat.le_refl _))
            have B6 := Lib.hid (B5.out.trans (b6.mono B5.out.size))
            clear b6 r6 s8 HC6 B5 cut5 HL5
            go_wp2_with fail
            refine (sameAll_any (rs.take m) A8 A6 m c8 c6 _ HIL2.out (by have := HIL2.out; have := HIL.out; omega) SO6.out HL6.out).mono ?_
            rintro e w7 ⟨rfl, b7⟩
            have B7 := Lib.hid (B6.out.trans (b7.mono B6.out.size))
            clear b7 SO6 HL6 B6
            go_wp2_with fail
            refine (awake_any _).mono ?_
            rintro e wa ⟨rfl, ba⟩
            have BX := Lib.hid (B7.out.trans (ba.mono B7.out.size))
            clear ba
            go_wp2_with fail
            go_ret
            exact ⟨rfl, BX.out⟩
end Go.Proofs.Ythpmngdpgniehaa.Jr
