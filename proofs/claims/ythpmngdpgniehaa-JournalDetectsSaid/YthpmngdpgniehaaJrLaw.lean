/-
  The plain law of the journal, with no program in sight: hashes, bytes, reading, and what reading the bytes gives. No conditions.
-/
import Derived.Test.YthpmngdpgniehaaJrDec
import Derived.Test.YthpmngdpgniehaaWrFrame
namespace Go.Proofs.Ythpmngdpgniehaa.Jr
open Go Go.Proofs.Ythpmngdpgniehaa.Mem Go.Proofs.Ythpmngdpgniehaa.Wr Go.Proofs.Ythpmngdpgniehaa.Opn

def hashN (h : Nat) (b : List UInt8) : Nat := (Dg.chainI (h : Int) b).toNat
theorem hashN_eq (h : Nat) (b : List UInt8) : Dg.chainI (h : Int) b = ((hashN h b : Nat) : Int) := by
  have := Dg.chainI_u64 (h : Int) b
  unfold Dg.U64 at this
  unfold hashN
  omega
theorem hashN_lt (h : Nat) (b : List UInt8) : hashN h b < 18446744073709551616 := by
  have := Dg.chainI_u64 (h : Int) b
  unfold Dg.U64 at this
  unfold hashN
  omega
/-- the hash behind records. -/
def hashes : Nat → List Rec → Nat
  | h, [] => h
  | h, r :: rs => hashes (hashN h (enc r)) rs
theorem hashes_append : ∀ (rs ss : List Rec) (h : Nat), hashes h (rs ++ ss) = hashes (hashes h rs) ss
  | [], _, _ => rfl
  | r :: rs, ss, h => by rw [List.cons_append, hashes, hashes, hashes_append rs ss]
theorem hashes_snoc (h : Nat) (rs : List Rec) (r : Rec) : hashes h (rs ++ [r]) = hashN (hashes h rs) (enc r) := by rw [hashes_append]; rfl
theorem hashes_lt : ∀ (rs : List Rec) (h : Nat), h < 18446744073709551616 → hashes h rs < 18446744073709551616
  | [], _, hh => hh
  | _ :: rs, _, _ => hashes_lt rs _ (hashN_lt _ _)
/-- a frame's contents. -/
def cont (h : Nat) (r : Rec) : List UInt8 := enc r ++ big (hashN h (enc r))
theorem cont_len (h : Nat) (r : Rec) : (cont h r).length = (enc r).length + 8 := by rw [cont, List.length_append, big_len]
/-- the bytes of a journal behind a hash. -/
def jbytes : Nat → List Rec → List UInt8
  | _, [] => []
  | h, r :: rs => frame (cont h r) ++ jbytes (hashN h (enc r)) rs
theorem jbytes_append : ∀ (rs ss : List Rec) (h : Nat), jbytes h (rs ++ ss) = jbytes h rs ++ jbytes (hashes h rs) ss
  | [], _, _ => rfl
  | r :: rs, ss, h => by rw [List.cons_append, jbytes, jbytes, hashes, jbytes_append rs ss, List.append_assoc]
theorem jbytes_snoc (h : Nat) (rs : List Rec) (r : Rec) : jbytes h (rs ++ [r]) = jbytes h rs ++ frame (cont (hashes h rs) r) := by
  rw [jbytes_append]
  show _ ++ (_ ++ []) = _
  rw [List.append_nil]
theorem frame_pos (x : List UInt8) : 0 < (frame x).length := by rw [frame_len]; omega

/-! ### reading -/
def contN (x : List UInt8) (m h : Nat) : Except Int (Rec × Nat × Nat) :=
  if x.length < 8 then .error 28
  else if unbig (x.drop (x.length - 8)) = hashN h (x.take (x.length - 8)) then
    (if decErr (x.take (x.length - 8)) = 0 then .ok (dec (x.take (x.length - 8)), m, hashN h (x.take (x.length - 8))) else .error (decErr (x.take (x.length - 8))))
  else .error 27
def stepN (bs : List UInt8) (p h : Nat) : Except Int (Rec × Nat × Nat) :=
  match nextN bs p with
  | .error e => .error e
  | .ok (x, m) => contN x m h
def readG (bs : List UInt8) : Nat → Nat → Nat → List Rec → List Rec × Nat × Int
  | 0, _, h, out => (out, h, 0)
  | f + 1, p, h, out =>
    if p < bs.length then
      (if 4096 ≤ out.length then (out, h, 3) else
        match stepN bs p h with
        | .error e => (out, h, e)
        | .ok (r, m, h2) => readG bs f m h2 (out ++ [r]))
    else (out, h, 0)
/-- records, hash and error of what is read. -/
def readN (bs : List UInt8) : List Rec × Nat × Int := readG bs (bs.length + 1) 0 0 []
section
variable {bs : List UInt8} {f p h : Nat} {out : List Rec}
theorem readG_end (hp : ¬ p < bs.length) : readG bs f p h out = (out, h, 0) := by
  cases f with
  | zero => rfl
  | succ f => rw [readG, if_neg hp]
theorem readG_full (hf : 0 < f) (hp : p < bs.length) (ho : 4096 ≤ out.length) : readG bs f p h out = (out, h, 3) := by
  obtain ⟨f, rfl⟩ : ∃ g, f = g + 1 := ⟨f - 1, by omega⟩
  rw [readG, if_pos hp, if_pos ho]
theorem readG_err {e : Int} (hf : 0 < f) (hp : p < bs.length) (ho : ¬ 4096 ≤ out.length) (hs : stepN bs p h = .error e) : readG bs f p h out = (out, h, e) := by
  obtain ⟨f, rfl⟩ : ∃ g, f = g + 1 := ⟨f - 1, by omega⟩
  rw [readG, if_pos hp, if_neg ho, hs]
theorem readG_next {r : Rec} {m h2 : Nat} (hp : p < bs.length) (ho : ¬ 4096 ≤ out.length) (hs : stepN bs p h = .ok (r, m, h2)) : readG bs (f + 1) p h out = readG bs f m h2 (out ++ [r]) := by
  rw [readG, if_pos hp, if_neg ho, hs]
theorem stepN_err {e : Int} (hn : nextN bs p = .error e) : stepN bs p h = .error e := by unfold stepN; rw [hn]
theorem stepN_ok {x : List UInt8} {m : Nat} (hn : nextN bs p = .ok (x, m)) : stepN bs p h = contN x m h := by unfold stepN; rw [hn]
end
section
variable {x : List UInt8} {m h : Nat}
theorem contN_short (hx : x.length < 8) : contN x m h = .error 28 := by unfold contN; rw [if_pos hx]
theorem contN_bad (hx : ¬ x.length < 8) (hu : ¬ unbig (x.drop (x.length - 8)) = hashN h (x.take (x.length - 8))) : contN x m h = .error 27 := by unfold contN; rw [if_neg hx, if_neg hu]
theorem contN_dec (hx : ¬ x.length < 8) (hu : unbig (x.drop (x.length - 8)) = hashN h (x.take (x.length - 8))) (hd : ¬ decErr (x.take (x.length - 8)) = 0) : contN x m h = .error (decErr (x.take (x.length - 8))) := by unfold contN; rw [if_neg hx, if_pos hu, if_neg hd]
theorem contN_ok (hx : ¬ x.length < 8) (hu : unbig (x.drop (x.length - 8)) = hashN h (x.take (x.length - 8))) (hd : decErr (x.take (x.length - 8)) = 0) : contN x m h = .ok (dec (x.take (x.length - 8)), m, hashN h (x.take (x.length - 8))) := by unfold contN; rw [if_neg hx, if_pos hu, if_pos hd]
theorem contN_back {r : Rec} {k h2 : Nat} (hc : contN x m h = .ok (r, k, h2)) : k = m ∧ x = cont h r ∧ h2 = hashN h (enc r) ∧ r = dec (enc r) ∧ decErr (enc r) = 0 := by
  unfold contN at hc
  split at hc
  · cases hc
  · rename_i h1
    split at hc
    · rename_i h3
      split at hc
      · rename_i h4
        injection hc with hc
        injection hc with e1 e2
        injection e2 with e2 e3
        have he := enc_dec h4
        rw [e1] at he
        have hl : (x.drop (x.length - 8)).length = 8 := by rw [List.length_drop]; omega
        have hb : big (hashN h (enc r)) = x.drop (x.length - 8) := by rw [he, ← h3, big_unbig hl]
        refine ⟨e2.symm, ?_, by rw [he]; exact e3.symm, by rw [he]; exact e1.symm, by rw [he]; exact h4⟩
        unfold cont
        rw [hb, he, List.take_append_drop]
      · cases hc
    · cases hc
end

/-- a record that the journal takes. -/
def Good (r : Rec) : Prop := RecFit r ∧ Within r
theorem enc_len {r : Rec} (hr : Good r) : (enc r).length ≤ 1200120 := pre_len hr.1 hr.2.lim 12
theorem cont_ok {r : Rec} (hr : Good r) (m h : Nat) : contN (cont h r) m h = .ok (r, m, hashN h (enc r)) := by
  have hl := cont_len h r
  have e1 : (cont h r).take ((cont h r).length - 8) = enc r := by rw [hl, Nat.add_sub_cancel, cont]; exact Wr.take_len _ _ rfl
  have e2 : (cont h r).drop ((cont h r).length - 8) = big (hashN h (enc r)) := by rw [hl, Nat.add_sub_cancel, cont]; exact Wr.drop_len _ _ rfl
  have hd := dec_enc hr.1 hr.2
  rw [contN_ok (by omega) (by rw [e1, e2, unbig_big (hashN_lt _ _)]) (by rw [e1]; exact hd.1), e1, hd.2]
theorem step_ok {r : Rec} (hr : Good r) (h : Nat) (p t : List UInt8) : stepN (p ++ (frame (cont h r) ++ t)) p.length h = .ok (r, (p ++ frame (cont h r)).length, hashN h (enc r)) := by
  have := enc_len hr
  have hl := cont_len h r
  rw [stepN_ok (nextN_frame (by omega)), cont_ok hr, List.length_append]
/-- reading over the frames of records. -/
theorem read_on : ∀ (rs : List Rec) (p t : List UInt8) (h f : Nat) (out : List Rec), (∀ r ∈ rs, Good r) → rs.length ≤ f → out.length + rs.length ≤ 4096 →
    readG (p ++ (jbytes h rs ++ t)) f p.length h out = readG (p ++ (jbytes h rs ++ t)) (f - rs.length) (p ++ jbytes h rs).length (hashes h rs) (out ++ rs)
  | [], p, t, h, f, out, _, _, _ => by simp [jbytes, hashes]
  | r :: rs, p, t, h, f, out, hg, hf, ho => by
    simp only [List.length_cons] at hf ho
    obtain ⟨f, rfl⟩ : ∃ g, f = g + 1 := ⟨f - 1, by omega⟩
    have e : p ++ (jbytes h (r :: rs) ++ t) = p ++ (frame (cont h r) ++ (jbytes (hashN h (enc r)) rs ++ t)) := by rw [jbytes, List.append_assoc]
    have hs := step_ok (hg r (by simp)) h p (jbytes (hashN h (enc r)) rs ++ t)
    have hp : p.length < (p ++ (frame (cont h r) ++ (jbytes (hashN h (enc r)) rs ++ t))).length := by
      have := frame_pos (cont h r)
      simp only [List.length_append]
      omega
    rw [e, readG_next hp (by omega) hs, ← List.append_assoc p, read_on rs _ _ _ _ _ (fun s hs => hg s (by simp [hs])) (by omega) (by simp; omega)]
    rw [List.length_cons, show f + 1 - (rs.length + 1) = f - rs.length from by omega, hashes, jbytes, List.append_assoc, List.append_assoc, List.append_assoc]
    rfl
theorem jbytes_more : ∀ (rs : List Rec) (h : Nat), rs.length ≤ (jbytes h rs).length
  | [], _ => Nat.zero_le _
  | r :: rs, h => by
    have := jbytes_more rs (hashN h (enc r))
    have := frame_pos (cont h r)
    rw [jbytes, List.length_append, List.length_cons]
    omega
/-- the bytes of a journal, and something behind them. -/
theorem read_part (rs : List Rec) (t : List UInt8) (hg : ∀ r ∈ rs, Good r) (hl : rs.length ≤ 4096) : ∃ f, t.length < f ∧ readN (jbytes 0 rs ++ t) = readG (jbytes 0 rs ++ t) f (jbytes 0 rs).length (hashes 0 rs) rs := by
  have hm := jbytes_more rs 0
  have h := read_on rs [] t 0 ((jbytes 0 rs ++ t).length + 1) [] hg (by rw [List.length_append]; omega) (by simp; omega)
  simp only [List.nil_append, List.length_nil] at h
  exact ⟨_, by rw [List.length_append]; omega, h⟩
/-- THE ROUND TRIP. -/
theorem read_jbytes (rs : List Rec) (hg : ∀ r ∈ rs, Good r) (hl : rs.length ≤ 4096) : readN (jbytes 0 rs) = (rs, hashes 0 rs, 0) := by
  obtain ⟨f, _, h⟩ := read_part rs [] hg hl
  rw [List.append_nil] at h
  rw [h, readG_end (by omega)]
/-- a frame that is cut off. -/
theorem next_cut (p x : List UInt8) (k : Nat) (hx : x.length < 18446744073709551616) (hk : k < (frame x).length) : nextN (p ++ (frame x).take k) p.length = .error 28 := by
  by_cases h : k < (uv x.length).length
  · refine nextN_err ?_
    rw [Wr.drop_len _ _ rfl]
    unfold frame
    rw [List.take_append_of_le_length (by omega)]
    exact vt_cut 0 _ k (by omega) (by rw [room_zero]; exact hx) h
  · have e : (frame x).take k = uv x.length ++ (x ++ big (sumN x)).take (k - (uv x.length).length) := by
      unfold frame
      rw [List.take_append, List.take_of_length_le (by omega)]
    rw [e, nextN_ok (n := x.length) (k := (uv x.length).length) (by rw [Wr.drop_len _ _ rfl]; exact vt_uv 0 _ _ (by omega) (by rw [room_zero]; exact hx) (by omega))]
    unfold nextB
    rw [if_pos]
    rw [frame_len] at hk
    simp only [List.length_append, List.length_take, big_len]
    omega
theorem read_cut (rs : List Rec) (r : Rec) (k : Nat) (hg : ∀ s ∈ rs, Good s) (hr : Good r) (hl : rs.length < 4096) (hk0 : 0 < k) (hk : k < (frame (cont (hashes 0 rs) r)).length) : readN (jbytes 0 rs ++ (frame (cont (hashes 0 rs) r)).take k) = (rs, hashes 0 rs, 28) := by
  obtain ⟨f, hf, h⟩ := read_part rs ((frame (cont (hashes 0 rs) r)).take k) hg (by omega)
  have hc := enc_len hr
  have hcl := cont_len (hashes 0 rs) r
  rw [h, readG_err (by omega) (by rw [List.length_append, List.length_take]; omega) (by omega) (stepN_err (next_cut _ _ k (by omega) hk))]
/-- what is read has these bytes. -/
theorem read_back (bs : List UInt8) : ∀ (f p h : Nat) (out : List Rec) (R : List Rec × Nat × Int), p ≤ bs.length → bs.length - p < f → readG bs f p h out = R → R.2.2 = 0 → ∃ rs, R.1 = out ++ rs ∧ R.2.1 = hashes h rs ∧ bs = bs.take p ++ jbytes h rs
  | 0, _, _, _, _, _, hf, _, _ => absurd hf (by omega)
  | f + 1, p, h, out, R, hp, hf, hR, h0 => by
    by_cases hlt : p < bs.length
    · by_cases ho : 4096 ≤ out.length
      · rw [readG_full (by omega) hlt ho] at hR
        subst hR
        cases h0
      · cases hn : nextN bs p with
        | error e =>
          rw [readG_err (by omega) hlt ho (stepN_err hn)] at hR
          subst hR
          rcases nextN_errs hn with e1 | e1 | e1 <;> (rw [e1] at h0; cases h0)
        | ok q =>
          obtain ⟨x, m⟩ := q
          obtain ⟨b1, b2, b3, _, _⟩ := nextN_back hp hn
          cases hc : contN x m h with
          | error e =>
            rw [readG_err (by omega) hlt ho (by rw [stepN_ok hn, hc])] at hR
            subst hR
            exfalso
            have e0 : e = 0 := h0
            subst e0
            unfold contN at hc
            split at hc
            · cases hc
            · split at hc
              · split at hc
                · cases hc
                · rename_i h9
                  injection hc with hc
                  exact h9 hc
              · cases hc
          | ok q =>
            obtain ⟨r, k, h2⟩ := q
            obtain ⟨rfl, c2, c3, c4, c5⟩ := contN_back hc
            rw [readG_next hlt ho (by rw [stepN_ok hn, hc])] at hR
            obtain ⟨rs, r1, r2, r3⟩ := read_back bs f k h2 (out ++ [r]) R b1 (by omega) hR h0
            refine ⟨r :: rs, by rw [r1, List.append_assoc]; rfl, by rw [r2, hashes, c3], ?_⟩
            rw [jbytes, ← c3, ← c2, ← List.append_assoc, ← b3]
            exact r3
    · rw [readG_end hlt] at hR
      subst hR
      exact ⟨[], by simp, rfl, by rw [jbytes, List.append_nil, List.take_of_length_le (by omega)]⟩
theorem readN_back {bs : List UInt8} (h0 : (readN bs).2.2 = 0) : (readN bs).2.1 = hashes 0 (readN bs).1 ∧ bs = jbytes 0 (readN bs).1 := by
  obtain ⟨rs, r1, r2, r3⟩ := read_back bs (bs.length + 1) 0 0 [] (readN bs) (Nat.zero_le _) (by omega) rfl h0
  rw [List.nil_append] at r1
  rw [r1]
  exact ⟨r2, by rw [List.take_zero, List.nil_append] at r3; exact r3⟩
end Go.Proofs.Ythpmngdpgniehaa.Jr
