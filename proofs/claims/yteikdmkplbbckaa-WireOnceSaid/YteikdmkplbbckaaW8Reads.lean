/-
  The walk of WireReads: a reader returns what the reference's returns. Conditions: the bytes and the calls lie in memory.
-/
import Derived.Test.YteikdmkplbbckaaW8Awake
import Derived.Test.YteikdmkplbbckaaWrS4
namespace Go.Proofs.Yteikdmkplbbckaa.Wr
open Go.RowKit Go.Proofs.Yteikdmkplbbckaa.Mem Go.Proofs.Yteikdmkplbbckaa.Eqs
attribute [local go_sem ↓] Go.wp_at_zero Go.wp_at_succ

/-- calls in memory: each its kind and its limit. -/
def AskSl (w : World) (A : Option Addr) (xs : List (Int × Int)) : Prop :=
  ∀ k x, xs[k]? = some x → ∃ b off, A = some ⟨b, off, none⟩ ∧ b < w.heap.size ∧ w.cell? ⟨b, off + k * 2, none⟩ = some (.int .i64 x.1) ∧ w.cell? ⟨b, off + k * 2 + 1, none⟩ = some (.int .i64 x.2) ∧ I64 x.2
theorem AskSl.below {w w' : World} {A : Option Addr} {xs : List (Int × Int)} (h : AskSl w A xs) (hb : Below w.heap.size w w') : AskSl w' A xs := by
  intro k x hx
  obtain ⟨b, off, e, hlt, h1, h2, h3⟩ := h k x hx
  exact ⟨b, off, e, Nat.lt_of_lt_of_le hlt hb.size, (hb.cell (p := ⟨b, _, none⟩) hlt).trans h1, (hb.cell (p := ⟨b, _, none⟩) hlt).trans h2, h3⟩
/-- the state of a reader behind a call. -/
def askS (bs : List UInt8) (s : RS) (x : Int × Int) : RS := if x.1 = 1 then (rI bs s).2 else if x.1 = 2 then (rU bs s).2 else if x.1 = 3 then (rT bs x.2 s).2 else (rIs bs x.2 s).2
theorem ask1 {bs : List UInt8} {s : RS} {x : Int × Int} (h : x.1 = 1) : askS bs s x = (rI bs s).2 := by unfold askS; rw [if_pos h]
theorem ask2 {bs : List UInt8} {s : RS} {x : Int × Int} (h : x.1 = 2) : askS bs s x = (rU bs s).2 := by unfold askS; rw [if_neg (by omega), if_pos h]
theorem ask3 {bs : List UInt8} {s : RS} {x : Int × Int} (h : x.1 = 3) : askS bs s x = (rT bs x.2 s).2 := by unfold askS; rw [if_neg (by omega), if_neg (by omega), if_pos h]
theorem ask4 {bs : List UInt8} {s : RS} {x : Int × Int} (h1 : x.1 ≠ 1) (h2 : x.1 ≠ 2) (h3 : x.1 ≠ 3) : askS bs s x = (rIs bs x.2 s).2 := by unfold askS; rw [if_neg h1, if_neg h2, if_neg h3]

/-- two readers of the same bytes in the same state, apart from each other and from what was there before them. -/
structure Two (w0 : World) (w : World) (p p2 : Nat) (A A2 : Option Addr) (bs : List UInt8) (s : RS) : Prop where
  a : Rd 72 w p A bs s
  b : Rd 74 w p2 A2 bs s
  ab : ∀ k, rown p A k → ¬ k = p2
  ba : ∀ k, rown p2 A2 k → ¬ k = p
  pa : w0.heap.size ≤ p
  pb : w0.heap.size ≤ p2
  old : Below w0.heap.size w0 w
theorem Two.further {w0 w w' : World} {p p2 : Nat} {A A2 : Option Addr} {bs : List UInt8} {s : RS} (h : Two w0 w p p2 A A2 bs s) (hb : Below w.heap.size w w') : Two w0 w' p p2 A A2 bs s :=
  ⟨h.a.below hb, h.b.below hb, h.ab, h.ba, h.pa, h.pb, h.old.trans (hb.mono h.old.size)⟩
/-- the first reader steps. -/
theorem Two.stepA {w0 w w' : World} {p p2 : Nat} {A A2 : Option Addr} {bs : List UInt8} {s s' : RS} (h : Two w0 w p p2 A A2 bs s) (hf : Frm (· = p) w w') (hr : Rd 72 w' p A bs s') : Rd 74 w' p2 A2 bs s ∧ Below w0.heap.size w0 w' ∧ Rd 72 w' p A bs s' :=
  ⟨h.b.keep hf h.ba, h.old.trans (hf.below h.old.size (fun i hi e => by have := h.pa; omega)), hr⟩
theorem Two.stepB {w0 w w1 w' : World} {p p2 : Nat} {A A2 : Option Addr} {bs : List UInt8} {s s' : RS} (h : Two w0 w p p2 A A2 bs s) (h1 : Rd 74 w1 p2 A2 bs s ∧ Below w0.heap.size w0 w1 ∧ Rd 72 w1 p A bs s') (hf : Frm (· = p2) w1 w') (hr : Rd 74 w' p2 A2 bs s') : Two w0 w' p p2 A A2 bs s' :=
  ⟨h1.2.2.keep hf h.ab, hr, h.ab, h.ba, h.pa, h.pb, h1.2.1.trans (hf.below h1.2.1.size (fun i hi e => by have := h.pb; omega))⟩

theorem Two.stepB1 {w0 w w' : World} {p p2 : Nat} {A A2 : Option Addr} {bs : List UInt8} {s s' : RS} (h : Two w0 w p p2 A A2 bs s) (hf : Frm (· = p2) w w') (hr : Rd 74 w' p2 A2 bs s') : Rd 72 w' p A bs s ∧ Below w0.heap.size w0 w' ∧ Rd 74 w' p2 A2 bs s' :=
  ⟨h.a.keep hf h.ab, h.old.trans (hf.below h.old.size (fun i hi e => by have := h.pb; omega)), hr⟩
theorem Two.stepA2 {w0 w w1 w' : World} {p p2 : Nat} {A A2 : Option Addr} {bs : List UInt8} {s s' : RS} (h : Two w0 w p p2 A A2 bs s) (h1 : Rd 72 w1 p A bs s ∧ Below w0.heap.size w0 w1 ∧ Rd 74 w1 p2 A2 bs s') (hf : Frm (· = p) w1 w') (hr : Rd 72 w' p A bs s') : Two w0 w' p p2 A A2 bs s' :=
  ⟨hr, h1.2.2.keep hf h.ba, h.ab, h.ba, h.pa, h.pb, h1.2.1.trans (hf.below h1.2.1.size (fun i hi e => by have := h.pa; omega))⟩
/-- a new list outlives a reader's step. -/
theorem own_outlives {w w1 w2 : World} {p n c : Nat} {A : Option Addr} {xs : List Value} (ho : w1.ownsRow 0 3 1 (.slice A n c) n xs) (hfr : ∀ k, (Value.slice A n c).ownBlock = some k → w.heap.size ≤ k) (hp : p < w.heap.size) (hf : Frm (· = p) w1 w2) : Sl w2 1 A n xs :=
  (Sl.of_own ho).frm hf fun a e e2 => by
    have := hfr a.block (by rw [e]; rfl)
    omega
set_option maxRecDepth 100000 in
set_option maxHeartbeats 8000000 in
theorem reads_few (bs : List UInt8) (xs : List (Int × Int)) (A AX : Option Addr) (m c n cx : Nat) (w : World) (hs : Sl w 1 A m (byts bs)) (hm : m ≤ 20000) (hn : xs.length = n) (hn2 : n ≤ 200) (hx : AskSl w AX xs) :
    Calls Try.prog 4 #[.slice A m c, .slice AX n cx] w fun e w' => e = .returned (.bool true) ∧ Below w.heap.size w w' := by
  have LN := Lib.hid hn
  have HX := Lib.hid hx
  have HS := Lib.hid hs
  have hmi : (m : Int) ≤ 20000 := by omega
  have hni : (n : Int) ≤ 200 := by omega
  clear hn hx hs
  go_enter Try.func4, Try.ntmps4
  go_wp2_with fail
  refine (newReader_any bs A m c _ HS.out (by omega)).mono ?_
  rintro e w1 ⟨p, AR, rfl, hown, hrd, hb1⟩
  have R1 := Lib.hid hrd
  have O1 := Lib.hid hown
  have B1 := Lib.hid hb1
  clear hown hrd hb1
  go_wp2_with fail
  refine (newReaderR_any bs A m c _ (HS.out.below B1.out (Nat.le_refl _)) (by omega)).mono ?_
  rintro e wS ⟨p2, A2, rfl, hown2, hrd2, hb2⟩
  have T0 : Hid (Two w wS p p2 AR A2 bs ⟨0, 0⟩) := ⟨R1.out.below hb2, hrd2, fun k hk e => by
      have h1 := R1.out.rown_lt hk
      have h2 := hown2 p2 (.inl rfl)
      omega, fun k hk e => by
      have h1 := R1.out.lt
      have h2 := hown2 k hk
      omega, O1.out p (.inl rfl), Nat.le_trans B1.out.size (hown2 p2 (.inl rfl)), B1.out.trans (hb2.mono B1.out.size)⟩
  clear hown2 hrd2 hb2 R1 O1 B1
  go_wp2_with fail
  go_loopw [26] (fun i wr => ∃ (k : Nat) (st : RS), k ≤ n ∧ i = .int .i64 k ∧ Hid (Two w wr p p2 AR A2 bs st)) (fun i _ => n - (intOf i).toNat)
  case atStart => exact ⟨0, _, by omega, rfl, T0⟩
  case round =>
    obtain ⟨k, st, hk, rfl, HR⟩ := hrel
    by_cases hlt : k < n
    · have kl : k < xs.length := by have := LN.out; omega
      obtain ⟨b, off, rfl, _, q0, q1, hI⟩ := HX.out.below HR.out.old k _ (List.getElem?_eq_getElem kl)
      have HI := Lib.hid hI
      have KQ : Hid (∀ W, Below w.heap.size w W → W.cell? ⟨b, off + k * 2 + 1, none⟩ = some (.int .i64 xs[k].2)) := fun W hb => by
        obtain ⟨b', off', e, _, _, h2, _⟩ := HX.out.below hb k _ (List.getElem?_eq_getElem kl)
        injection e with e
        injection e with e1 e2
        subst e1 e2
        exact h2
      have hlti : (k : Int) < (n : Int) := by omega
      have h0i : (0 : Int) ≤ (k : Int) := by omega
      clear hI
      generalize xs[k] = x at *
      obtain ⟨kind, most⟩ := x
      by_cases k1 : kind = 1
      · have t1 : (kind == 1) = true := by simp [k1]
        clear k1
        go_wp2_with fail
        refine (rint_any p AR bs st _ HR.out.a).mono ?_
        rintro e w2 ⟨rfl, r2, f2⟩
        have K1 := Lib.hid (HR.out.stepA f2 r2)
        clear r2 f2
        go_wp2_with fail
        refine (rintR_any p2 A2 bs st _ K1.out.1).mono ?_
        rintro e w3 ⟨rfl, r3, f3⟩
        have T2 := Lib.hid (HR.out.stepB K1.out f3 r3)
        clear r3 f3 K1
        go_wp2_with fail
        refine (rleft_any p AR bs (rI bs st).2 _ T2.out.a).mono ?_
        rintro e w8 ⟨rfl, q8, hq8⟩
        have T3 : Hid (Two w w8 p p2 AR A2 bs (rI bs st).2) := by rw [hq8]; exact T2.out.further (below_of_drewN _ _ _)
        clear hq8
        go_wp2_with fail
        refine (rleftR_any p2 A2 bs (rI bs st).2 _ T3.out.b).mono ?_
        rintro e w9 ⟨rfl, q9, hq9⟩
        have T4 : Hid (Two w w9 p p2 AR A2 bs (rI bs st).2) := by rw [hq9]; exact T3.out.further (below_of_drewN _ _ _)
        clear hq9
        go_wp2_with fail
        refine (rerr_any p AR bs (rI bs st).2 _ T4.out.a).mono ?_
        rintro e w10 ⟨rfl, rfl⟩
        go_wp2_with fail
        refine (rerrR_any p2 A2 bs (rI bs st).2 _ T4.out.b).mono ?_
        rintro e w11 ⟨rfl, rfl⟩
        go_wp2_with fail
        go_roundw
        case rel => exact ⟨k + 1, _, by omega, by go_num, T4⟩
        case measure => simp [intOf]; omega
      · have t1 : (kind == 1) = false := by simpa using k1
        by_cases k2 : kind = 2
        · have t2 : (kind == 2) = true := by simp [k2]
          clear k1 k2
          go_wp2_with fail
          refine (ruint_any p AR bs st _ HR.out.a).mono ?_
          rintro e w2 ⟨rfl, r2, f2⟩
          have K1 := Lib.hid (HR.out.stepA f2 r2)
          clear r2 f2
          go_wp2_with fail
          refine (ruintR_any p2 A2 bs st _ K1.out.1).mono ?_
          rintro e w3 ⟨rfl, r3, f3⟩
          have T2 := Lib.hid (HR.out.stepB K1.out f3 r3)
          clear r3 f3 K1
          go_wp2_with fail
          refine (rleft_any p AR bs (rU bs st).2 _ T2.out.a).mono ?_
          rintro e w8 ⟨rfl, q8, hq8⟩
          have T3 : Hid (Two w w8 p p2 AR A2 bs (rU bs st).2) := by rw [hq8]; exact T2.out.further (below_of_drewN _ _ _)
          clear hq8
          go_wp2_with fail
          refine (rleftR_any p2 A2 bs (rU bs st).2 _ T3.out.b).mono ?_
          rintro e w9 ⟨rfl, q9, hq9⟩
          have T4 : Hid (Two w w9 p p2 AR A2 bs (rU bs st).2) := by rw [hq9]; exact T3.out.further (below_of_drewN _ _ _)
          clear hq9
          go_wp2_with fail
          refine (rerr_any p AR bs (rU bs st).2 _ T4.out.a).mono ?_
          rintro e w10 ⟨rfl, rfl⟩
          go_wp2_with fail
          refine (rerrR_any p2 A2 bs (rU bs st).2 _ T4.out.b).mono ?_
          rintro e w11 ⟨rfl, rfl⟩
          go_wp2_with fail
          go_roundw
          case rel => exact ⟨k + 1, _, by omega, by go_num, T4⟩
          case measure => simp [intOf]; omega
        · have t2 : (kind == 2) = false := by simpa using k2
          have HD : Hid (Two w wr.drew p p2 AR A2 bs st) := HR.out.further (Below.refl _ _).drew
          by_cases k3 : kind = 3
          · have t3 : (kind == 3) = true := by simp [k3]
            clear k1 k2 k3
            go_wp2_with fail
            go_region_held3 (fun W => W.cell? ⟨b, off + k * 2 + 1, none⟩ = some (.int .i64 most))
              (first
                | exact KQ.out _ HD.out.old
                | exact KQ.out _ j2.2.1
                | exact KQ.out _ j3.2.1
                | exact KQ.out _ jj.old)
              (first
                | (go_at_call 28; (first
                    | (refine (rtext_any p AR bs most st _ j3.1 HI.out).mono ?_; rintro e w2 ⟨rfl, r2, f2⟩; have jj := HD.out.stepA2 j3 f2 r2)
                    | (refine (rtext_any p AR bs most st _ HD.out.a HI.out).mono ?_; rintro e w2 ⟨rfl, r2, f2⟩; have j2 := HD.out.stepA f2 r2)))
                | (go_at_call 29; (first
                    | (refine (rtextR_any p2 A2 bs most st _ j2.1 HI.out).mono ?_; rintro e w3 ⟨rfl, r3, f3⟩; have jj := HD.out.stepB j2 f3 r3)
                    | (refine (rtextR_any p2 A2 bs most st _ HD.out.b HI.out).mono ?_; rintro e w3 ⟨rfl, r3, f3⟩; have j3 := HD.out.stepB1 f3 r3))))
            all_goals
              have T2 := Lib.hid jj
              clear HD HR KQ q0 q1
              go_wp2_with fail
              refine (rleft_any p AR bs (rT bs most st).2 _ T2.out.a).mono ?_
              rintro e w8 ⟨rfl, q8, hq8⟩
              have T3 : Hid (Two w w8 p p2 AR A2 bs (rT bs most st).2) := by rw [hq8]; exact T2.out.further (below_of_drewN _ _ _)
              clear hq8
              go_wp2_with fail
              refine (rleftR_any p2 A2 bs (rT bs most st).2 _ T3.out.b).mono ?_
              rintro e w9 ⟨rfl, q9, hq9⟩
              have T4 : Hid (Two w w9 p p2 AR A2 bs (rT bs most st).2) := by rw [hq9]; exact T3.out.further (below_of_drewN _ _ _)
              clear hq9
              go_wp2_with fail
              refine (rerr_any p AR bs (rT bs most st).2 _ T4.out.a).mono ?_
              rintro e w10 ⟨rfl, rfl⟩
              go_wp2_with fail
              refine (rerrR_any p2 A2 bs (rT bs most st).2 _ T4.out.b).mono ?_
              rintro e w11 ⟨rfl, rfl⟩
              go_wp2_with fail
              go_roundw
              case rel => exact ⟨k + 1, _, by omega, by go_num, T4⟩
              case measure => simp [intOf]; omega
          · have t3 : (kind == 3) = false := by simpa using k3
            clear k1 k2 k3
            go_wp2_with fail
            have HLt : Hid (p < wr.drew.heap.size ∧ p2 < wr.drew.heap.size) := ⟨HD.out.a.lt, HD.out.b.lt⟩
            have HLen : Hid ((rIs bs most st).1.length ≤ 9223372036854775807) := by
              have h1 := (rIs_fine most HR.out.a.ok).2.2.1
              have h2 := HR.out.a.len
              show _ ≤ _
              omega
            go_region_held3 (fun W => W.cell? ⟨b, off + k * 2 + 1, none⟩ = some (.int .i64 most))
              (first
                | exact KQ.out _ HD.out.old
                | exact KQ.out _ j2.2.1
                | exact KQ.out _ j3.2.1
                | exact KQ.out _ jj.old
                | exact KQ.out _ j5.old)
              (first
                | (go_at_call 31; (first
                    | (refine (rints_any p AR bs most st _ j3.1 HI.out).mono ?_; rintro e w2 ⟨v2, rfl, o2, fr2, r2, f2⟩; obtain ⟨A5, c5, rfl, s5⟩ := own_form o2; have jj := HD.out.stepA2 j3 f2 r2; have sB := own_outlives o3 fr3 HLt.out.1 f2; have sA := s5)
                    | (refine (rints_any p AR bs most st _ HD.out.a HI.out).mono ?_; rintro e w2 ⟨v2, rfl, o2, fr2, r2, f2⟩; obtain ⟨A5, c5, rfl, s5⟩ := own_form o2; have j2 := HD.out.stepA f2 r2)))
                | (go_at_call 32; (first
                    | (refine (rintsR_any p2 A2 bs most st _ j2.1 HI.out).mono ?_; rintro e w3 ⟨v3, rfl, o3, fr3, r3, f3⟩; obtain ⟨A6, c6, rfl, s6⟩ := own_form o3; have jj := HD.out.stepB j2 f3 r3; have sA := own_outlives o2 fr2 HLt.out.2 f3; have sB := s6)
                    | (refine (rintsR_any p2 A2 bs most st _ HD.out.b HI.out).mono ?_; rintro e w3 ⟨v3, rfl, o3, fr3, r3, f3⟩; obtain ⟨A6, c6, rfl, s6⟩ := own_form o3; have j3 := HD.out.stepB1 f3 r3)))
                | (go_at_call 30; refine (same08 (rIs bs most st).1 (rIs bs most st).1 _ _ _ _ _ _ _ sA sB HLen.out).mono ?_; rintro e w4 ⟨rfl, q4, hq4⟩; have j5 : Two w w4 p p2 AR A2 bs (rIs bs most st).2 := (by rw [hq4]; exact jj.further (below_of_drewN _ _ _)); clear hq4; rw [decide_eq_true rfl]))
            all_goals
              have T2 := Lib.hid j5
              clear HD HR KQ q0 q1 HLt HLen
              go_wp2_with fail
              refine (rleft_any p AR bs (rIs bs most st).2 _ T2.out.a).mono ?_
              rintro e w8 ⟨rfl, q8, hq8⟩
              have T3 : Hid (Two w w8 p p2 AR A2 bs (rIs bs most st).2) := by rw [hq8]; exact T2.out.further (below_of_drewN _ _ _)
              clear hq8
              go_wp2_with fail
              refine (rleftR_any p2 A2 bs (rIs bs most st).2 _ T3.out.b).mono ?_
              rintro e w9 ⟨rfl, q9, hq9⟩
              have T4 : Hid (Two w w9 p p2 AR A2 bs (rIs bs most st).2) := by rw [hq9]; exact T3.out.further (below_of_drewN _ _ _)
              clear hq9
              go_wp2_with fail
              refine (rerr_any p AR bs (rIs bs most st).2 _ T4.out.a).mono ?_
              rintro e w10 ⟨rfl, rfl⟩
              go_wp2_with fail
              refine (rerrR_any p2 A2 bs (rIs bs most st).2 _ T4.out.b).mono ?_
              rintro e w11 ⟨rfl, rfl⟩
              go_wp2_with fail
              go_roundw
              case rel => exact ⟨k + 1, _, by omega, by go_num, T4⟩
              case measure => simp [intOf]; omega
    · go_wp2_with fail
      refine (awake8 _).mono ?_
      rintro e w7 ⟨rfl, b7⟩
      have B7 := Lib.hid (HR.out.old.trans (b7.mono HR.out.old.size))
      clear b7
      go_wp2_with fail
      go_ret
      exact ⟨rfl, B7.out⟩

set_option maxRecDepth 100000 in
set_option maxHeartbeats 2000000 in
theorem reads_walk (bs : List UInt8) (xs : List (Int × Int)) (A AX : Option Addr) (m c n cx : Nat) (w : World) (hs : Sl w 1 A m (byts bs)) (hm : m ≤ 9223372036854775807) (hn : xs.length = n) (hn2 : n ≤ 9223372036854775807) (hx : AskSl w AX xs) :
    Calls Try.prog 4 #[.slice A m c, .slice AX n cx] w fun e w' => e = .returned (.bool true) ∧ Below w.heap.size w w' := by
  by_cases h1 : m ≤ 20000
  · by_cases h2 : n ≤ 200
    · exact reads_few bs xs A AX m c n cx w hs h1 hn h2 hx
    · have h1i : (m : Int) ≤ 20000 := by omega
      have h2i : (200 : Int) < (n : Int) := by omega
      clear hs hn hx h1 h2
      go_enter Try.func4, Try.ntmps4
      go_wp2_with fail
      refine (awake8 _).mono ?_
      rintro e w1 ⟨rfl, b1⟩
      have B1 := Lib.hid b1
      clear b1
      go_wp2_with fail
      go_ret
      exact ⟨rfl, B1.out⟩
  · have h1i : (20000 : Int) < (m : Int) := by omega
    clear hs hn hx h1
    go_enter Try.func4, Try.ntmps4
    go_wp2_with fail
    refine (awake8 _).mono ?_
    rintro e w1 ⟨rfl, b1⟩
    have B1 := Lib.hid b1
    clear b1
    go_wp2_with fail
    go_ret
    exact ⟨rfl, B1.out⟩
end Go.Proofs.Yteikdmkplbbckaa.Wr
