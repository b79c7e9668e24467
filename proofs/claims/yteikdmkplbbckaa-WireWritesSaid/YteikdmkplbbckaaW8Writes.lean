/-
  The walk of WireWrites: it returns true, and changes nothing that was there. Conditions: the items lie in memory.
-/
import Derived.Test.YteikdmkplbbckaaW8Items
import Derived.Test.YteikdmkplbbckaaWrV2
namespace Go.Proofs.Yteikdmkplbbckaa.Wr
open Go.RowKit Go.Proofs.Yteikdmkplbbckaa.Mem Go.Proofs.Yteikdmkplbbckaa.Eqs
attribute [local go_sem ↓] Go.wp_at_zero Go.wp_at_succ

set_option maxRecDepth 100000 in
set_option maxHeartbeats 8000000 in
theorem writes_few (xs : List It) (A : Option Addr) (n c : Nat) (w : World) (hn : xs.length = n) (h : ItSl w (· < w.heap.size) A xs) (hf : fewIt xs) :
    Calls Try.prog 3 #[.slice A n c] w fun e w' => e = .returned (.bool true) ∧ Below w.heap.size w w' := by
  have h200 : n ≤ 200 := by have := hf.1; omega
  have LN := Lib.hid hn
  have H := Lib.hid h
  have HF := Lib.hid hf
  have HS := Lib.hid hf.2
  have HFit : Hid (Fit 20000000) := by unfold Fit; show _ ≤ _; decide
  clear hn h hf
  go_enter Try.func3, Try.ntmps3
  go_wp2_with fail
  refine (few_yes xs _ A n c _ LN.out H.out HF.out).mono ?_
  rintro e w' ⟨rfl, rfl⟩
  go_wp2_with fail
  refine (newWriter_any _).mono ?_
  rintro e w1 ⟨g, rfl, hg, hw1, hb1⟩
  have HG := Lib.hid hg
  have H1 := Lib.hid hw1
  have B1 := Lib.hid hb1
  clear hg hw1 hb1
  go_wp2_with fail
  refine (newWriterR_any _).mono ?_
  rintro e w2 ⟨g2, rfl, hg2, hw2, hb2⟩
  have HG2 := Lib.hid hg2
  have H2 := Lib.hid hw2
  have B2 := Lib.hid (B1.out.trans (hb2.mono B1.out.size))
  have H1' := Lib.hid (H1.out.below hb2)
  have HNE : Hid (g ≠ g2) := fun e => by have := H1.out.1.lt; omega
  clear hg2 hw2 hb2
  go_wp2_with fail
  refine (write_any g _ [] xs _ A n c _ H1'.out LN.out (by omega) (H.out.below B2.out fun k hk => hk) HS.out (fun k hk => ⟨Nat.lt_of_lt_of_le hk B2.out.size, fun ho => by
    have hk' : k < w.heap.size := hk
    rcases ho with rfl | ho
    · have := HG.out; omega
    · cases ho⟩) (HFit.out.of (by simp; omega))).mono ?_
  rintro e wS ⟨rfl, v, hw3, ht3⟩
  rw [List.nil_append] at hw3
  have HV := Lib.hid hw3
  have OV : Hid (∀ k, own g v k → w.heap.size ≤ k ∧ k ≠ g2) := fun k hk => by
    rcases hk with rfl | hk
    · exact ⟨HG.out, HNE.out⟩
    · rcases ht3.2 k hk with h5 | h5
      · cases h5
      · have := B2.out.size
        have := H2.out.1.lt
        exact ⟨by omega, by omega⟩
  have BS : Hid (Below w.heap.size w wS) := B2.out.trans (ht3.below B2.out.size fun k hk => by
    rcases hk with rfl | hk
    · exact HG.out
    · cases hk)
  have HR2 : Hid (Wr 68 wS g2 (.slice none 0 0) []) := H2.out.keep ht3.1 fun k hk ho => by
    rcases hk with rfl | hk
    · rcases ho with e | ho
      · exact HNE.out e.symm
      · cases ho
    · cases hk
  clear hw3 ht3 H1 H2 H1'
  go_wp2_with fail
  go_loopw [19] (fun i wr => ∃ (k : Nat) (u : Value), k ≤ n ∧ i = .int .i64 k ∧ Hid (Wr 68 wr g2 u (encs (xs.take k)) ∧ WrTo g2 (.slice none 0 0) u wS wr)) (fun i _ => n - (intOf i).toNat)
  case atStart => exact ⟨0, .slice none 0 0, by omega, rfl, ⟨by simpa [encs] using HR2.out, WrTo.refl _ _ _⟩⟩
  case round =>
    obtain ⟨k, u, hk, rfl, HR⟩ := hrel
    have OU : Hid (∀ j, own g2 u j → w.heap.size ≤ j ∧ (j = g2 ∨ wS.heap.size ≤ j)) := fun j hj => by
      rcases hj with rfl | hj
      · exact ⟨Nat.le_trans B1.out.size HG2.out, .inl rfl⟩
      · rcases HR.out.2.2 j hj with h5 | h5
        · cases h5
        · have := BS.out.size
          exact ⟨by omega, .inr h5⟩
    have BR : Hid (Below w.heap.size w wr) := BS.out.trans (HR.out.2.below BS.out.size fun j hj => by
      rcases hj with rfl | hj
      · exact Nat.le_trans B1.out.size HG2.out
      · cases hj)
    by_cases hlt : k < n
    · have kl : k < xs.length := by have := LN.out; omega
      have H2 := H.out.below BR.out fun k hk => hk
      have HLen : Hid (Fit ((encs (xs.take k)).length + 60000)) := by
        refine HFit.out.of ?_
        have := encs_len H.out HS.out k (by omega)
        omega
      obtain ⟨b, off, cs, rfl, _, _, ⟨A2, c2, rfl, hsl, hg2', x1, x2, x3, _⟩, hc⟩ := H2 k _ (List.getElem?_eq_getElem kl)
      have q0 : wr.cell? ⟨b, off + k * 5, none⟩ = some (.int .i64 xs[k].kind) := hc 0 _ rfl
      have q1 := hc 1 _ rfl
      have q2 := hc 2 _ rfl
      have q3 := hc 3 _ rfl
      have q4 := hc 4 _ rfl
      have HSm := Lib.hid (HS.out _ (List.getElem_mem kl))
      have HE := Lib.hid (encs_snoc xs k kl)
      have hlti : (k : Int) < (n : Int) := by omega
      have h0i : (0 : Int) ≤ (k : Int) := by omega
      have X1 := Lib.hid x1
      have X2 := Lib.hid x2
      have X3 := Lib.hid x3
      have XS := Lib.hid hsl
      have XG : Hid (0 < xs[k].l.length → ∀ a, A2 = some a → ¬ own g2 u a.block) := fun h0 a ha hk => by
        have h6 : a.block < w.heap.size := hg2' h0 a ha
        have := (OU.out _ hk).1
        omega
      have done : Hid (∀ e w1, WrPost 68 g2 u (encs (xs.take k) ++ xs[k].enc) wr e w1 → e = .returned (.tuple #[]) ∧ ∃ v1, Wr 68 w1 g2 v1 (encs (xs.take (k + 1))) ∧ WrTo g2 (.slice none 0 0) v1 wS w1) := fun e w1 ⟨he, v1, h1, h2⟩ =>
        ⟨he, v1, by rw [HE.out]; exact h1, HR.out.2.trans h2⟩
      clear hc H2 hsl hg2' x1 x2 x3
      generalize xs[k] = x at *
      by_cases k1 : x.kind = 1
      · have t1 : (x.kind == 1) = true := by simp [k1]
        rw [enc1 k1] at done
        clear k1
        go_wp2_with fail
        refine (wintR_any g2 u _ x.n _ HR.out.1 X1.out (HLen.out.of (by omega))).mono ?_
        intro e w1 hp
        obtain ⟨rfl, v1, h1, h2⟩ := done.out e w1 hp
        have J1 := Lib.hid (And.intro h1 h2)
        clear hp h1 h2 done
        go_wp2_with fail
        go_roundw
        case rel => exact ⟨k + 1, v1, by omega, by go_num, J1⟩
        case measure => simp [intOf]; omega
      · have t1 : (x.kind == 1) = false := by simpa using k1
        by_cases k2 : x.kind = 2
        · have t2 : (x.kind == 2) = true := by simp [k2]
          rw [enc2 k2] at done
          clear k1 k2
          go_wp2_with fail
          refine (uintR_any g2 u _ x.u _ HR.out.1 X2.out (HLen.out.of (by omega))).mono ?_
          intro e w1 hp
          obtain ⟨rfl, v1, h1, h2⟩ := done.out e w1 hp
          have J1 := Lib.hid (And.intro h1 h2)
          clear hp h1 h2 done
          go_wp2_with fail
          go_roundw
          case rel => exact ⟨k + 1, v1, by omega, by go_num, J1⟩
          case measure => simp [intOf]; omega
        · have t2 : (x.kind == 2) = false := by simpa using k2
          by_cases k3 : x.kind = 3
          · have t3 : (x.kind == 3) = true := by simp [k3]
            rw [enc3 k3] at done
            clear k1 k2 k3
            go_wp2_with fail
            refine (wtextR_any g2 u _ x.s _ HR.out.1 (by have := HSm.out.1; omega) (HLen.out.of (by have := HSm.out.1; omega))).mono ?_
            intro e w1 hp
            obtain ⟨rfl, v1, h1, h2⟩ := done.out e w1 hp
            have J1 := Lib.hid (And.intro h1 h2)
            clear hp h1 h2 done
            go_wp2_with fail
            go_roundw
            case rel => exact ⟨k + 1, v1, by omega, by go_num, J1⟩
            case measure => simp [intOf]; omega
          · have t3 : (x.kind == 3) = false := by simpa using k3
            rw [enc4 k1 k2 k3] at done
            clear k1 k2 k3
            go_wp2_with fail
            refine (wintsR_any g2 u _ x.l A2 _ c2 _ HR.out.1 XS.out XG.out X3.out (by have := HSm.out.2; omega) (HLen.out.of (by have := HSm.out.2; omega))).mono ?_
            intro e w1 hp
            obtain ⟨rfl, v1, h1, h2⟩ := done.out e w1 hp
            have J1 := Lib.hid (And.intro h1 h2)
            clear hp h1 h2 done
            go_wp2_with fail
            go_roundw
            case rel => exact ⟨k + 1, v1, by omega, by go_num, J1⟩
            case measure => simp [intOf]; omega
    · obtain rfl : k = n := by omega
      have HT : Hid (xs.take k = xs) := List.take_of_length_le (by have := LN.out; omega)
      have HWW : Hid (∀ W, Below wr.heap.size wr W → Wr 66 W g v (encs xs) ∧ Wr 68 W g2 u (encs xs)) := fun W hb => by
        have h5 := HR.out
        rw [HT.out] at h5
        refine ⟨(HV.out.keep HR.out.2.1 fun j hj ho => ?_).below hb, h5.1.below hb⟩
        have h6 := (OV.out j hj).2
        rcases ho with rfl | ho
        · exact h6 rfl
        · cases ho
      have HL : Hid (Fit (encs xs).length) := by
        have := encs_len H.out HS.out xs.length (Nat.le_refl _)
        rw [List.take_length] at this
        exact HFit.out.of (by have := LN.out; omega)
      generalize encs xs = bs at *
      clear HR
      go_wp2_with fail
      have e0 : Below wr.heap.size wr wr.drew := (Below.refl _ _).drew
      go_region_with (first
        | (go_at_call 20; (first
            | (refine (wbytes_any g v bs _ (HWW.out _ e2).1 HL.out).mono ?_; rintro e w5 ⟨v5, rfl, o5, f5, b5⟩; have e1 := e2.trans (b5.mono e2.size); have k2 := run_string_sl (P := Try.prog) 38 9 5 Try.underlying38 Try.underlying5 Try.underlying9 (s6.below b5 (Nat.le_refl _)) c6)
            | (refine (wbytes_any g v bs _ (HWW.out _ e0).1 HL.out).mono ?_; rintro e w5 ⟨v5, rfl, o5, f5, b5⟩; have e1 := e0.trans (b5.mono e0.size))); obtain ⟨A5, c5, rfl, s5⟩ := own_form o5; have k1 := run_string_sl (P := Try.prog) 38 9 5 Try.underlying38 Try.underlying5 Try.underlying9 s5 c5; clear o5 f5)
        | (go_at_call 21; (first
            | (refine (wbytesR_any g2 u bs _ (HWW.out _ e1).2 HL.out).mono ?_; rintro e w6 ⟨v6, rfl, o6, f6, b6⟩; have e2 := e1.trans (b6.mono e1.size); have k2 := run_string_sl (P := Try.prog) 38 9 5 Try.underlying38 Try.underlying5 Try.underlying9 (s5.below b6 (Nat.le_refl _)) c5)
            | (refine (wbytesR_any g2 u bs _ (HWW.out _ e0).2 HL.out).mono ?_; rintro e w6 ⟨v6, rfl, o6, f6, b6⟩; have e2 := e0.trans (b6.mono e0.size))); obtain ⟨A6, c6, rfl, s6⟩ := own_form o6; have k3 := run_string_sl (P := Try.prog) 38 9 5 Try.underlying38 Try.underlying5 Try.underlying9 s6 c6; clear o6 f6)
        | (go_at_call 12; refine (awake8 _).mono ?_; rintro e w7 ⟨rfl, b7⟩; (first | have e3 := e2.trans (b7.mono e2.size) | have e3 := e1.trans (b7.mono e1.size))))
      all_goals (go_wp2_with fail; go_ret; exact ⟨rfl, BR.out.trans (e3.mono BR.out.size)⟩)

set_option maxRecDepth 100000 in
set_option maxHeartbeats 2000000 in
theorem writes_many (xs : List It) (A : Option Addr) (n c : Nat) (w : World) (hn : xs.length = n) (hn2 : n ≤ 9223372036854775807) (h : ItSl w (· < w.heap.size) A xs) (hf : ¬ fewIt xs) :
    Calls Try.prog 3 #[.slice A n c] w fun e w' => e = .returned (.bool true) ∧ Below w.heap.size w w' := by
  have LN := Lib.hid hn
  have H := Lib.hid h
  have HF := Lib.hid hf
  clear hn h hf
  go_enter Try.func3, Try.ntmps3
  go_wp2_with fail
  refine (few_no xs _ A n c _ LN.out hn2 H.out HF.out).mono ?_
  rintro e w' ⟨rfl, rfl⟩
  go_wp2_with fail
  refine (awake8 _).mono ?_
  rintro e w1 ⟨rfl, b1⟩
  have B1 := Lib.hid b1
  clear b1
  go_wp2_with fail
  go_ret
  exact ⟨rfl, B1.out⟩
theorem writes_walk (xs : List It) (A : Option Addr) (n c : Nat) (w : World) (hn : xs.length = n) (hn2 : n ≤ 9223372036854775807) (h : ItSl w (· < w.heap.size) A xs) :
    Calls Try.prog 3 #[.slice A n c] w fun e w' => e = .returned (.bool true) ∧ Below w.heap.size w w' := by
  rcases fewIt_dec xs with hf | hf
  · exact writes_few xs A n c w hn h hf
  · exact writes_many xs A n c w hn hn2 h hf
end Go.Proofs.Yteikdmkplbbckaa.Wr
