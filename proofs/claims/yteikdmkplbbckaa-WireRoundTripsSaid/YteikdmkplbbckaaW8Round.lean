/-
  The walks of equal and WireRoundTrips: reading what was written returns the same values. Conditions: the items lie in memory.
-/
import Derived.Test.YteikdmkplbbckaaW8Nobody
import Derived.Deep.RegionHeld3
namespace Go.Proofs.Yteikdmkplbbckaa.Wr
open Go.RowKit Go.Proofs.Yteikdmkplbbckaa.Mem Go.Proofs.Yteikdmkplbbckaa.Eqs
attribute [local go_sem ↓] exec_load_item

/-- what a reader returns where an item was written. -/
theorem round_int {pre post : List UInt8} {x : It} (h : x.kind = 1) (hn : I64 x.n) : rI (pre ++ (x.enc ++ post)) ⟨pre.length, 0⟩ = (x.n, ⟨pre.length + x.enc.length, 0⟩) := by
  rw [enc1 h]; exact rI_of hn.1 hn.2
theorem round_uint {pre post : List UInt8} {x : It} (h : x.kind = 2) (hn : N64 x.u) : rU (pre ++ (x.enc ++ post)) ⟨pre.length, 0⟩ = (x.u, ⟨pre.length + x.enc.length, 0⟩) := by
  rw [enc2 h]; exact rU_of hn
theorem round_text {pre post : List UInt8} {x : It} (h : x.kind = 3) (hs : x.small) : rT (pre ++ (x.enc ++ post)) (x.s.size : Int) ⟨pre.length, 0⟩ = (x.s.data.toList, ⟨pre.length + x.enc.length, 0⟩) := by
  have := hs.1
  rw [enc3 h]
  exact rT_of (by show x.s.size < _; omega) (by show (x.s.size : Int) ≤ _; omega)
theorem round_ints {pre post : List UInt8} {x : It} (h1 : x.kind ≠ 1) (h2 : x.kind ≠ 2) (h3 : x.kind ≠ 3) (hs : x.small) (hl : ∀ y ∈ x.l, I64 y) : rIs (pre ++ (x.enc ++ post)) (x.l.length : Int) ⟨pre.length, 0⟩ = (x.l, ⟨pre.length + x.enc.length, 0⟩) := by
  have := hs.2
  rw [enc4 h1 h2 h3]
  exact rIs_of (fun y hy => hl y hy) (by omega) (by omega)

/-- a reader gave the item, and stands behind it. -/
def EqPost (p : Nat) (A : Option Addr) (bs : List UInt8) (s : RS) (w : World) (e : Ending) (w' : World) : Prop := e = .returned (.bool true) ∧ Rd 72 w' p A bs s ∧ Frm (· = p) w w'

set_option maxRecDepth 100000 in
set_option maxHeartbeats 4000000 in
theorem equal_any (p : Nat) (A : Option Addr) (pre post : List UInt8) (x : It) (cs : Array Value) (G : Nat → Prop) (w : World) (h : Rd 72 w p A (pre ++ (x.enc ++ post)) ⟨pre.length, 0⟩) (hi : IsIt w G cs x) (hs : x.small) (hG : ¬ G p) :
    Calls Try.prog 37 #[.pointer (some ⟨p, 0, none⟩), .agg cs] w (EqPost p A (pre ++ (x.enc ++ post)) ⟨pre.length + x.enc.length, 0⟩ w) := by
  obtain ⟨A2, c2, rfl, hsl, hg, x1, x2, x3, _⟩ := hi
  have hsm1 : (x.s.size : Int) ≤ 5000 := by have := hs.1; omega
  have hsm2 : (x.l.length : Int) ≤ 5000 := by have := hs.2; omega
  obtain ⟨W, hW⟩ : ∃ W, W = w.alloc (.cells #[.int .i64 x.kind, .int .i64 x.n, .int .u64 (x.u : Int), .string x.s, .slice A2 x.l.length c2] 33) := ⟨_, rfl⟩
  have KB : Hid (Blk W w.heap.size 33 #[.int .i64 x.kind, .int .i64 x.n, .int .u64 (x.u : Int), .string x.s, .slice A2 x.l.length c2]) := by rw [hW]; exact Blk.new _ _ _
  have HR : Hid (Rd 72 W p A (pre ++ (x.enc ++ post)) ⟨pre.length, 0⟩) := by rw [hW]; exact h.below ((Below.refl _ _).alloc (Nat.le_refl _) _)
  have HFW : Hid (Frm (· = p) w W) := by rw [hW]; exact (Frm.refl _ _).alloc _
  have HNP : Hid (w.heap.size ≠ p) := fun e => by have := h.lt; omega
  have HSL : Hid (∀ W', Frm (· = p) W W' → Sl W' 1 A2 x.l.length (ints x.l)) := fun W' hf => Sl_frm (Sl_frm hsl HFW.out (fun h0 a ha e => hG (by rw [← e]; exact hg h0 a ha))) hf (fun h0 a ha e => hG (by rw [← e]; exact hg h0 a ha))
  have HW := Lib.hid hW
  have X1 := Lib.hid x1
  have X2 := Lib.hid x2
  have X3 := Lib.hid x3
  have HSm := Lib.hid hs
  have q0 : W.cell? ⟨w.heap.size, 0, none⟩ = some (.int .i64 x.kind) := KB.out.cell 0
  have KC : Hid (∀ W', Frm (· = p) W W' → W'.cell? ⟨w.heap.size, 1, none⟩ = some (.int .i64 x.n) ∧ W'.cell? ⟨w.heap.size, 2, none⟩ = some (.int .u64 (x.u : Int)) ∧ W'.cell? ⟨w.heap.size, 3, none⟩ = some (.string x.s) ∧ W'.cell? ⟨w.heap.size, 4, none⟩ = some (.slice A2 x.l.length c2)) := fun W' hf => by
    have := KB.out.frm hf (fun e => HNP.out e)
    exact ⟨this.cell 1, this.cell 2, this.cell 3, this.cell 4⟩
  clear hW h hsl hg x1 x2 x3 hs
  by_cases k1 : x.kind = 1
  · have t1 : (x.kind == 1) = true := by simp [k1]
    have HV := Lib.hid (round_int (pre := pre) (post := post) k1 X1.out)
    clear k1
    go_enter Try.func37, Try.ntmps37
    go_wp2_with fail
    rw [← HW.out]
    obtain ⟨q1, q2, q3, q4⟩ := KC.out W (Frm.refl _ _)
    go_region_held3 (fun W' => W'.cell? ⟨w.heap.size, 1, none⟩ = some (.int .i64 x.n))
      (first | exact (KC.out _ (Frm.refl _ _).drew).1 | exact (KC.out _ g1).1 | exact (KC.out _ g2).1)
      (first | (go_at_call 24; refine (rint_any p A _ _ _ (by exact HR.out.drewN 1)).mono ?_; rw [HV.out]; rintro e w1 ⟨rfl, r1, f1⟩; have g1 : Frm (· = p) W w1 := Frm.two (Frm.refl _ _).drew f1))
    go_wp2_with fail
    go_ret
    exact ⟨rfl, r1, Frm.two HFW.out g1⟩
  · have t1 : (x.kind == 1) = false := by simpa using k1
    by_cases k2 : x.kind = 2
    · have t2 : (x.kind == 2) = true := by simp [k2]
      have HV := Lib.hid (round_uint (pre := pre) (post := post) k2 X2.out)
      clear k1 k2
      go_enter Try.func37, Try.ntmps37
      go_wp2_with fail
      rw [← HW.out]
      obtain ⟨q1, q2, q3, q4⟩ := KC.out W (Frm.refl _ _)
      go_region_held3 (fun W' => W'.cell? ⟨w.heap.size, 2, none⟩ = some (.int .u64 (x.u : Int)))
        (first | exact (KC.out _ (Frm.refl _ _).drew).2.1 | exact (KC.out _ g1).2.1 | exact (KC.out _ g2).2.1)
        (first | (go_at_call 26; refine (ruint_any p A _ _ _ (by exact HR.out.drewN 1)).mono ?_; rw [HV.out]; rintro e w1 ⟨rfl, r1, f1⟩; have g1 : Frm (· = p) W w1 := Frm.two (Frm.refl _ _).drew f1))
      go_wp2_with fail
      go_ret
      exact ⟨rfl, r1, Frm.two HFW.out g1⟩
    · have t2 : (x.kind == 2) = false := by simpa using k2
      by_cases k3 : x.kind = 3
      · have t3 : (x.kind == 3) = true := by simp [k3]
        have HV := Lib.hid (round_text (pre := pre) (post := post) k3 HSm.out)
        clear k1 k2 k3
        go_enter Try.func37, Try.ntmps37
        go_wp2_with fail
        rw [← HW.out]
        obtain ⟨q1, q2, q3, q4⟩ := KC.out W (Frm.refl _ _)
        go_region_held3 (fun W' => W'.cell? ⟨w.heap.size, 3, none⟩ = some (.string x.s))
          (first | exact (KC.out _ (Frm.refl _ _).drew).2.2.1 | exact (KC.out _ g1).2.2.1 | exact (KC.out _ g2).2.2.1)
          (first | (go_at_call 28; refine (rtext_any p A _ _ _ _ (by exact HR.out.drewN 1) (i64_lit (by omega) (by omega))).mono ?_; rw [HV.out]; rintro e w1 ⟨rfl, r1, f1⟩; have g1 : Frm (· = p) W w1 := Frm.two (Frm.refl _ _).drew f1))
        go_wp2_with fail
        go_ret
        exact ⟨rfl, r1, Frm.two HFW.out g1⟩
      · have t3 : (x.kind == 3) = false := by simpa using k3
        have HV := Lib.hid (round_ints (pre := pre) (post := post) k1 k2 k3 HSm.out X3.out)
        clear k1 k2 k3
        go_enter Try.func37, Try.ntmps37
        go_wp2_with fail
        rw [← HW.out]
        obtain ⟨q1, q2, q3, q4⟩ := KC.out W (Frm.refl _ _)
        go_region_held3 (fun W' => W'.cell? ⟨w.heap.size, 4, none⟩ = some (.slice A2 x.l.length c2))
          (first | exact (KC.out _ (Frm.refl _ _).drew).2.2.2 | exact (KC.out _ g1).2.2.2 | exact (KC.out _ g2).2.2.2)
          (first
          | (go_at_call 31; refine (rints_any p A _ _ _ _ (by exact HR.out.drewN 1) (i64_lit (by omega) (by omega))).mono ?_; rw [HV.out]; rintro e w1 ⟨v1, rfl, o1, fr1, r1, f1⟩; obtain ⟨A1, c1, rfl, s1⟩ := own_form o1; have g1 : Frm (· = p) W w1 := Frm.two (Frm.refl _ _).drew f1)
          | (go_at_call 30; refine (same08 x.l x.l _ _ _ _ _ _ _ s1 (HSL.out _ g1) (by omega)).mono ?_; rintro e w2 ⟨rfl, q, hq⟩; have g2 : Frm (· = p) W w2 := (by rw [hq]; exact g1.drewN q); rw [decide_eq_true rfl]))
        go_wp2_with fail
        go_ret
        exact ⟨rfl, r1.drewN q, Frm.two HFW.out (g1.drewN q)⟩


theorem encs_split (xs : List It) (k : Nat) (h : k < xs.length) : encs xs = encs (xs.take k) ++ (xs[k].enc ++ encs (xs.drop (k + 1))) := by
  unfold encs
  conv => lhs; rw [← List.take_append_drop k xs, List.drop_eq_getElem_cons h]
  rw [List.flatMap_append, List.flatMap_cons]
set_option maxRecDepth 100000 in
set_option maxHeartbeats 8000000 in
theorem round_few (xs : List It) (A : Option Addr) (n c : Nat) (w : World) (hn : xs.length = n) (h : ItSl w (· < w.heap.size) A xs) (hf : fewIt xs) :
    Calls Try.prog 5 #[.slice A n c] w fun e w' => e = .returned (.bool true) ∧ Below w.heap.size w w' := by
  have h200 : n ≤ 200 := by have := hf.1; omega
  have LN := Lib.hid hn
  have H := Lib.hid h
  have HF := Lib.hid hf
  have HS := Lib.hid hf.2
  have HFit : Hid (Fit 20000000) := by unfold Fit; show _ ≤ _; decide
  have HL : Hid ((encs xs).length ≤ 12000000) := by
    have := encs_len h hf.2 xs.length (Nat.le_refl _)
    rw [List.take_length] at this
    show _ ≤ _
    omega
  clear hn h hf
  go_enter Try.func5, Try.ntmps5
  go_wp2_with fail
  refine (few_yes xs _ A n c _ LN.out H.out HF.out).mono ?_
  rintro e w' ⟨rfl, rfl⟩
  go_wp2_with fail
  refine (newWriter_any _).mono ?_
  rintro e w1 ⟨g, rfl, hg, hw1, hb1⟩
  have HG := Lib.hid hg
  have H1 := Lib.hid hw1
  have B1 := Lib.hid hb1
  have HOwn : Hid (∀ k, own g (.slice none 0 0) k → w.heap.size ≤ k) := fun k hk => by
    rcases hk with rfl | hk
    · exact hg
    · cases hk
  clear hg hw1 hb1
  go_wp2_with fail
  refine (write_any g _ [] xs _ A n c _ H1.out LN.out (by omega) (H.out.below B1.out fun k hk => hk) HS.out (fun k hk => ⟨Nat.lt_of_lt_of_le hk B1.out.size, fun ho => by
    have hk' : k < w.heap.size := hk
    have := HOwn.out k ho
    omega⟩) (HFit.out.of (by simp; omega))).mono ?_
  rintro e w2 ⟨rfl, v, hw2, ht2⟩
  rw [List.nil_append] at hw2
  have HV := Lib.hid hw2
  have B2 := Lib.hid (B1.out.trans (ht2.below B1.out.size HOwn.out))
  clear hw2 ht2
  go_wp2_with fail
  refine (wbytes_any g v (encs xs) _ HV.out (HFit.out.of (by have := HL.out; omega))).mono ?_
  rintro e w3 ⟨v3, rfl, o3, f3, b3⟩
  obtain ⟨A3, c3, rfl, s3⟩ := own_form o3
  have S3 := Lib.hid s3
  have B3 := Lib.hid (B2.out.trans (b3.mono B2.out.size))
  clear o3 f3 s3 b3
  go_wp2_with fail
  refine (newReader_any (encs xs) A3 (encs xs).length c3 _ S3.out (by have := HL.out; omega)).mono ?_
  rintro e wS ⟨p, AR, rfl, hown, hrd, hb4⟩
  have B4 := Lib.hid (B3.out.trans (hb4.mono B3.out.size))
  have HP : Hid (w.heap.size ≤ p) := Nat.le_trans B3.out.size (hown p (.inl rfl))
  have R0 := Lib.hid hrd
  clear hown hrd hb4
  go_wp2_with fail
  go_loopw [23] (fun i wr => ∃ k : Nat, k ≤ n ∧ i = .int .i64 k ∧ Hid (Rd 72 wr p AR (encs xs) ⟨(encs (xs.take k)).length, 0⟩ ∧ Frm (· = p) wS wr)) (fun i _ => n - (intOf i).toNat)
  case atStart => exact ⟨0, by omega, rfl, ⟨by simpa [encs] using R0.out, Frm.refl _ _⟩⟩
  case round =>
    obtain ⟨k, hk, rfl, HR⟩ := hrel
    have BR : Hid (Below w.heap.size w wr) := B4.out.trans (HR.out.2.below B4.out.size (fun i hi e => by have := HP.out; omega))
    by_cases hlt : k < n
    · have kl : k < xs.length := by have := LN.out; omega
      have H2 := H.out.below BR.out fun k hk => hk
      obtain ⟨b, off, cs, rfl, _, h5, hi, hc⟩ := H2 k _ (List.getElem?_eq_getElem kl)
      have l0 := run_loadRow_at (P := Try.prog) hc h5 Try.underlying33 item_size8
      have HI := Lib.hid hi
      have HSm := Lib.hid (HS.out _ (List.getElem_mem kl))
      have hlti : (k : Int) < (n : Int) := by omega
      have h0i : (0 : Int) ≤ (k : Int) := by omega
      have HE := Lib.hid (encs_split xs k kl)
      have HE2 : Hid ((encs (xs.take (k + 1))).length = (encs (xs.take k)).length + xs[k].enc.length) := by show _ = _; rw [encs_snoc xs k kl, List.length_append]
      clear hc h5 hi H2
      go_wp2_with fail
      refine (equal_any p AR (encs (xs.take k)) (encs (xs.drop (k + 1))) xs[k] cs _ _ (by rw [← HE.out]; exact HR.out.1) HI.out HSm.out (fun hp => by have hp' : p < w.heap.size := hp; have := HP.out; omega)).mono ?_
      rintro e w5 ⟨rfl, r5, f5⟩
      rw [← HE.out, ← HE2.out] at r5
      have R5 := Lib.hid r5
      have F5 := Lib.hid (Frm.two HR.out.2 f5)
      clear r5 f5 l0
      go_wp2_with fail
      refine (rerr_any p AR _ _ _ R5.out).mono ?_
      rintro e w6 ⟨rfl, rfl⟩
      go_wp2_with fail
      go_roundw
      case rel => exact ⟨k + 1, by omega, by go_num, ⟨R5.out, F5.out⟩⟩
      case measure => simp [intOf]; omega
    · obtain rfl : k = n := by omega
      have HT : Hid (xs.take k = xs) := List.take_of_length_le (by have := LN.out; omega)
      have RE : Hid (Rd 72 wr p AR (encs xs) ⟨(encs xs).length, 0⟩) := by have := HR.out.1; rw [HT.out] at this; exact this
      have HZ : Hid (rLeft (encs xs) ⟨(encs xs).length, 0⟩ = 0) := by unfold rLeft; rw [if_pos rfl]; exact Nat.sub_self _
      go_wp2_with fail
      refine (rleft_any p AR _ _ _ RE.out).mono ?_
      rw [HZ.out]
      rintro e w5 ⟨rfl, q, hq⟩
      have R5 : Hid (Rd 72 w5 p AR (encs xs) ⟨(encs xs).length, 0⟩) := by rw [hq]; exact RE.out.drewN q
      have B5 : Hid (Below w.heap.size w w5) := by rw [hq]; exact below_drewN BR.out q
      clear hq
      go_wp2_with fail
      refine (rerr_any p AR _ _ _ R5.out).mono ?_
      rintro e w6 ⟨rfl, rfl⟩
      go_wp2_with fail
      refine (awake8 _).mono ?_
      rintro e w7 ⟨rfl, b7⟩
      have B7 := Lib.hid (B5.out.trans (b7.mono B5.out.size))
      clear b7
      go_wp2_with fail
      go_ret
      exact ⟨rfl, B7.out⟩

set_option maxRecDepth 100000 in
set_option maxHeartbeats 2000000 in
theorem round_walk (xs : List It) (A : Option Addr) (n c : Nat) (w : World) (hn : xs.length = n) (hn2 : n ≤ 9223372036854775807) (h : ItSl w (· < w.heap.size) A xs) :
    Calls Try.prog 5 #[.slice A n c] w fun e w' => e = .returned (.bool true) ∧ Below w.heap.size w w' := by
  rcases fewIt_dec xs with hf | hf
  · exact round_few xs A n c w hn h hf
  · have LN := Lib.hid hn
    have H := Lib.hid h
    have HF := Lib.hid hf
    clear hn h hf
    go_enter Try.func5, Try.ntmps5
    go_wp2_with fail
    refine (few_no xs _ A n c _ LN.out hn2 H.out HF.out).mono ?_
    rintro e w' ⟨rfl, rfl⟩
    go_wp2_with fail
    refine (awake8 _).mono ?_
    rintro e w1 ⟨rfl, b1⟩
    have B1 := Lib.hid b1
    clear b1
    go_wp2_with fail
    go_ret
    exact ⟨rfl, B1.out⟩
end Go.Proofs.Yteikdmkplbbckaa.Wr
