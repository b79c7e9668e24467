/-
  The plain law of decoding a record, with no program in sight. No conditions.
-/
import Derived.Test.YthpmngdpgniehaaJrEnc
import Derived.Test.YthpmngdpgniehaaWrPlain
namespace Go.Proofs.Ythpmngdpgniehaa.Jr
open Go Go.RowKit Go.Proofs.Ythpmngdpgniehaa.Mem Go.Proofs.Ythpmngdpgniehaa.Wr Go.Proofs.Ythpmngdpgniehaa.Opn

def mName : Int := 24
def mText : Int := 32768
def mList : Int := 256
def q1 (bs : List UInt8) := rI bs ⟨0, 0⟩
def q2 (bs : List UInt8) := rI bs (q1 bs).2
def q3 (bs : List UInt8) := rI bs (q2 bs).2
def q4 (bs : List UInt8) := rI bs (q3 bs).2
def q5 (bs : List UInt8) := rI bs (q4 bs).2
def q6 (bs : List UInt8) := rT bs mName (q5 bs).2
def q7 (bs : List UInt8) := rT bs mText (q6 bs).2
def q8 (bs : List UInt8) := rIs bs mList (q7 bs).2
def q9 (bs : List UInt8) := rU bs (q8 bs).2
def q10 (bs : List UInt8) := rU bs (q9 bs).2
def q11 (bs : List UInt8) := rT bs mName (q10 bs).2
def q12 (bs : List UInt8) := rIs bs mList (q11 bs).2
def decErr (bs : List UInt8) : Int := if (q12 bs).2.err = 0 then (if 0 < rLeft bs (q12 bs).2 then 1 else 0) else (q12 bs).2.err
def got (bs : List UInt8) : Rec := ⟨(q1 bs).1, (q2 bs).1, (q3 bs).1, (q4 bs).1, (q5 bs).1, ⟨(q6 bs).1.toArray⟩, ⟨(q7 bs).1.toArray⟩, (q8 bs).1, ((q9 bs).1 : Int), ((q10 bs).1 : Int), ⟨(q11 bs).1.toArray⟩, (q12 bs).1⟩
def none_ : Rec := ⟨0, 0, 0, 0, 0, ⟨#[]⟩, ⟨#[]⟩, [], 0, 0, ⟨#[]⟩, []⟩
def dec (bs : List UInt8) : Rec := if decErr bs = 0 then got bs else none_
theorem st0_ok (bs : List UInt8) : (⟨0, 0⟩ : RS).ok bs := ⟨Nat.zero_le _, by show (0 : Int) ≤ 0; omega, by show (0 : Int) ≤ 32; omega⟩
theorem q1_ok (bs : List UInt8) : (q1 bs).2.ok bs := (rI_fine (st0_ok bs)).1
theorem q2_ok (bs : List UInt8) : (q2 bs).2.ok bs := (rI_fine (q1_ok bs)).1
theorem q3_ok (bs : List UInt8) : (q3 bs).2.ok bs := (rI_fine (q2_ok bs)).1
theorem q4_ok (bs : List UInt8) : (q4 bs).2.ok bs := (rI_fine (q3_ok bs)).1
theorem q5_ok (bs : List UInt8) : (q5 bs).2.ok bs := (rI_fine (q4_ok bs)).1
theorem q6_ok (bs : List UInt8) : (q6 bs).2.ok bs := (rT_fine mName (q5_ok bs)).1
theorem q7_ok (bs : List UInt8) : (q7 bs).2.ok bs := (rT_fine mText (q6_ok bs)).1
theorem q8_ok (bs : List UInt8) : (q8 bs).2.ok bs := (rIs_fine mList (q7_ok bs)).1
theorem q9_ok (bs : List UInt8) : (q9 bs).2.ok bs := (rU_fine (q8_ok bs)).1
theorem q10_ok (bs : List UInt8) : (q10 bs).2.ok bs := (rU_fine (q9_ok bs)).1
theorem q11_ok (bs : List UInt8) : (q11 bs).2.ok bs := (rT_fine mName (q10_ok bs)).1
theorem q12_ok (bs : List UInt8) : (q12 bs).2.ok bs := (rIs_fine mList (q11_ok bs)).1
/-- what was accepted has these bytes as its encoding. -/
theorem enc_dec {bs : List UInt8} (h : decErr bs = 0) : enc (dec bs) = bs := by
  have h12 : (q12 bs).2.err = 0 := by
    unfold decErr at h
    split at h
    · assumption
    · exact h
  have hl : rLeft bs (q12 bs).2 = 0 := by
    unfold decErr at h
    rw [if_pos h12] at h
    split at h
    · cases h
    · omega
  unfold dec
  rw [if_pos h]
  obtain ⟨e11, b12⟩ := rIs_back (most := mList) (q11_ok bs) h12
  obtain ⟨e10, b11⟩ := rT_back (bs := bs) (s := (q10 bs).2) e11
  obtain ⟨e9, b10⟩ := rU_back (bs := bs) (s := (q9 bs).2) e10
  obtain ⟨e8, b9⟩ := rU_back (bs := bs) (s := (q8 bs).2) e9
  obtain ⟨e7, b8⟩ := rIs_back (most := mList) (q7_ok bs) e8
  obtain ⟨e6, b7⟩ := rT_back (bs := bs) (s := (q6 bs).2) e7
  obtain ⟨e5, b6⟩ := rT_back (bs := bs) (s := (q5 bs).2) e6
  obtain ⟨e4, b5⟩ := rI_back (bs := bs) (s := (q4 bs).2) e5
  obtain ⟨e3, b4⟩ := rI_back (bs := bs) (s := (q3 bs).2) e4
  obtain ⟨e2, b3⟩ := rI_back (bs := bs) (s := (q2 bs).2) e3
  obtain ⟨e1, b2⟩ := rI_back (bs := bs) (s := (q1 bs).2) e2
  obtain ⟨_, b1⟩ := rI_back (bs := bs) (s := ⟨0, 0⟩) e1
  have hall : bs.take (q12 bs).2.pos = bs := by
    refine List.take_of_length_le ?_
    unfold rLeft at hl
    rw [if_pos h12] at hl
    omega
  show [] ++ wInt (q1 bs).1 ++ wInt (q2 bs).1 ++ wInt (q3 bs).1 ++ wInt (q4 bs).1 ++ wInt (q5 bs).1 ++ wText (q6 bs).1 ++ wText (q7 bs).1 ++ wInts (q8 bs).1 ++ uv (q9 bs).1 ++ uv (q10 bs).1 ++ wText (q11 bs).1 ++ wInts (q12 bs).1 = bs
  have c1 : bs.take (q1 bs).2.pos = [] ++ wInt (q1 bs).1 := b1
  have c2 : bs.take (q2 bs).2.pos = bs.take (q1 bs).2.pos ++ wInt (q2 bs).1 := b2
  have c3 : bs.take (q3 bs).2.pos = bs.take (q2 bs).2.pos ++ wInt (q3 bs).1 := b3
  have c4 : bs.take (q4 bs).2.pos = bs.take (q3 bs).2.pos ++ wInt (q4 bs).1 := b4
  have c5 : bs.take (q5 bs).2.pos = bs.take (q4 bs).2.pos ++ wInt (q5 bs).1 := b5
  have c6 : bs.take (q6 bs).2.pos = bs.take (q5 bs).2.pos ++ wText (q6 bs).1 := b6
  have c7 : bs.take (q7 bs).2.pos = bs.take (q6 bs).2.pos ++ wText (q7 bs).1 := b7
  have c8 : bs.take (q8 bs).2.pos = bs.take (q7 bs).2.pos ++ wInts (q8 bs).1 := b8
  have c9 : bs.take (q9 bs).2.pos = bs.take (q8 bs).2.pos ++ uv (q9 bs).1 := b9
  have c10 : bs.take (q10 bs).2.pos = bs.take (q9 bs).2.pos ++ uv (q10 bs).1 := b10
  have c11 : bs.take (q11 bs).2.pos = bs.take (q10 bs).2.pos ++ wText (q11 bs).1 := b11
  have c12 : bs.take (q12 bs).2.pos = bs.take (q11 bs).2.pos ++ wInts (q12 bs).1 := b12
  rw [← c1, ← c2, ← c3, ← c4, ← c5, ← c6, ← c7, ← c8, ← c9, ← c10, ← c11, ← c12]
  exact hall
/-! ### reading what was written -/
theorem rT_at {bs p r s : List UInt8} {most : Int} {k m : Nat} (hb : bs = p ++ (wText s ++ r)) (hk : k = p.length) (hm' : (p ++ wText s).length = m) (hn : s.length < 18446744073709551616) (hm : (s.length : Int) ≤ max most 0) : rT bs most ⟨k, 0⟩ = (s, ⟨m, 0⟩) := by
  subst hb hk hm'
  rw [List.length_append]
  exact rT_of hn hm
theorem rI_at {bs p r : List UInt8} {x : Int} {k m : Nat} (hb : bs = p ++ (wInt x ++ r)) (hk : k = p.length) (hm' : (p ++ wInt x).length = m) (h : I64 x) : rI bs ⟨k, 0⟩ = (x, ⟨m, 0⟩) := by
  subst hb hk hm'
  rw [List.length_append]
  exact rI_of h.1 h.2
theorem rU_at {bs p r : List UInt8} {x : Nat} {k m : Nat} (hb : bs = p ++ (uv x ++ r)) (hk : k = p.length) (hm' : (p ++ uv x).length = m) (h : N64 x) : rU bs ⟨k, 0⟩ = (x, ⟨m, 0⟩) := by
  subst hb hk hm'
  rw [List.length_append]
  exact rU_of h
theorem rIs_at {bs p r : List UInt8} {l : List Int} {most : Int} {k m : Nat} (hb : bs = p ++ (wInts l ++ r)) (hk : k = p.length) (hm' : (p ++ wInts l).length = m) (hl : ∀ x ∈ l, I64 x) (hn : l.length < 18446744073709551616) (hm : (l.length : Int) ≤ max most 0) : rIs bs most ⟨k, 0⟩ = (l, ⟨m, 0⟩) := by
  subst hb hk hm'
  rw [List.length_append]
  exact rIs_of hl hn hm
theorem pre_split (r : Rec) (k : Nat) : ∀ m, k ≤ m → ∃ z, pre r m = pre r k ++ z
  | 0, h => by
    obtain rfl : k = 0 := by omega
    exact ⟨[], by simp⟩
  | m + 1, h => by
    by_cases e : k = m + 1
    · subst e
      exact ⟨[], by simp⟩
    · obtain ⟨z, hz⟩ := pre_split r k m (by omega)
      exact ⟨z ++ part r m, by rw [pre, hz, List.append_assoc]⟩
theorem enc_split (r : Rec) (k : Nat) (hk : k + 1 ≤ 12) : ∃ z, ∀ t, enc r ++ t = pre r k ++ (part r k ++ (z ++ t)) := by
  obtain ⟨z, hz⟩ := pre_split r (k + 1) 12 hk
  refine ⟨z, fun t => ?_⟩
  unfold enc
  rw [hz, pre, List.append_assoc, List.append_assoc]
/-- within the limits of a journal. -/
structure Within (r : Rec) : Prop where
  name : r.name.size ≤ 24
  text : r.text.size ≤ 32768
  nums : r.nums.length ≤ 256
  ticket : r.ticket.size ≤ 24
  amts : r.amts.length ≤ 256
theorem Within.lim {r : Rec} (h : Within r) : Lim r := ⟨Nat.le_trans h.name (by decide), Nat.le_trans h.text (by decide), Nat.le_trans h.nums (by decide), Nat.le_trans h.ticket (by decide), Nat.le_trans h.amts (by decide)⟩
theorem bytes_size (s : ByteArray) : s.data.toList.length = s.size := rfl
theorem qs {r : Rec} (hf : RecFit r) (hw : Within r) (t : List UInt8) :
    q1 (enc r ++ t) = (r.k0, ⟨(pre r 1).length, 0⟩) ∧ q2 (enc r ++ t) = (r.k1, ⟨(pre r 2).length, 0⟩) ∧ q3 (enc r ++ t) = (r.k2, ⟨(pre r 3).length, 0⟩) ∧ q4 (enc r ++ t) = (r.k3, ⟨(pre r 4).length, 0⟩) ∧ q5 (enc r ++ t) = (r.k4, ⟨(pre r 5).length, 0⟩) ∧ q6 (enc r ++ t) = (r.name.data.toList, ⟨(pre r 6).length, 0⟩) ∧ q7 (enc r ++ t) = (r.text.data.toList, ⟨(pre r 7).length, 0⟩) ∧ q8 (enc r ++ t) = (r.nums, ⟨(pre r 8).length, 0⟩) ∧ q9 (enc r ++ t) = (r.key.toNat, ⟨(pre r 9).length, 0⟩) ∧ q10 (enc r ++ t) = (r.nonce.toNat, ⟨(pre r 10).length, 0⟩) ∧ q11 (enc r ++ t) = (r.ticket.data.toList, ⟨(pre r 11).length, 0⟩) ∧ q12 (enc r ++ t) = (r.amts, ⟨(pre r 12).length, 0⟩) := by
  have e1 : q1 (enc r ++ t) = (r.k0, ⟨(pre r 1).length, 0⟩) := by
    obtain ⟨z, hz⟩ := enc_split r 0 (by decide)
    unfold q1
    exact rI_at (p := pre r 0) (r := z ++ t) (hz t) rfl rfl hf.k0
  have e2 : q2 (enc r ++ t) = (r.k1, ⟨(pre r 2).length, 0⟩) := by
    obtain ⟨z, hz⟩ := enc_split r 1 (by decide)
    unfold q2
    rw [e1]
    exact rI_at (p := pre r 1) (r := z ++ t) (hz t) rfl rfl hf.k1
  have e3 : q3 (enc r ++ t) = (r.k2, ⟨(pre r 3).length, 0⟩) := by
    obtain ⟨z, hz⟩ := enc_split r 2 (by decide)
    unfold q3
    rw [e2]
    exact rI_at (p := pre r 2) (r := z ++ t) (hz t) rfl rfl hf.k2
  have e4 : q4 (enc r ++ t) = (r.k3, ⟨(pre r 4).length, 0⟩) := by
    obtain ⟨z, hz⟩ := enc_split r 3 (by decide)
    unfold q4
    rw [e3]
    exact rI_at (p := pre r 3) (r := z ++ t) (hz t) rfl rfl hf.k3
  have e5 : q5 (enc r ++ t) = (r.k4, ⟨(pre r 5).length, 0⟩) := by
    obtain ⟨z, hz⟩ := enc_split r 4 (by decide)
    unfold q5
    rw [e4]
    exact rI_at (p := pre r 4) (r := z ++ t) (hz t) rfl rfl hf.k4
  have e6 : q6 (enc r ++ t) = (r.name.data.toList, ⟨(pre r 6).length, 0⟩) := by
    obtain ⟨z, hz⟩ := enc_split r 5 (by decide)
    unfold q6
    rw [e5]
    exact rT_at (p := pre r 5) (r := z ++ t) (hz t) rfl rfl (by rw [bytes_size]; have := hw.name; omega) (by rw [bytes_size]; have := hw.name; unfold mName; omega)
  have e7 : q7 (enc r ++ t) = (r.text.data.toList, ⟨(pre r 7).length, 0⟩) := by
    obtain ⟨z, hz⟩ := enc_split r 6 (by decide)
    unfold q7
    rw [e6]
    exact rT_at (p := pre r 6) (r := z ++ t) (hz t) rfl rfl (by rw [bytes_size]; have := hw.text; omega) (by rw [bytes_size]; have := hw.text; unfold mText; omega)
  have e8 : q8 (enc r ++ t) = (r.nums, ⟨(pre r 8).length, 0⟩) := by
    obtain ⟨z, hz⟩ := enc_split r 7 (by decide)
    unfold q8
    rw [e7]
    exact rIs_at (p := pre r 7) (r := z ++ t) (hz t) rfl rfl hf.nums (by have := hw.nums; omega) (by have := hw.nums; unfold mList; omega)
  have e9 : q9 (enc r ++ t) = (r.key.toNat, ⟨(pre r 9).length, 0⟩) := by
    obtain ⟨z, hz⟩ := enc_split r 8 (by decide)
    unfold q9
    rw [e8]
    exact rU_at (p := pre r 8) (r := z ++ t) (hz t) rfl rfl (n64_key hf.key)
  have e10 : q10 (enc r ++ t) = (r.nonce.toNat, ⟨(pre r 10).length, 0⟩) := by
    obtain ⟨z, hz⟩ := enc_split r 9 (by decide)
    unfold q10
    rw [e9]
    exact rU_at (p := pre r 9) (r := z ++ t) (hz t) rfl rfl (n64_key hf.nonce)
  have e11 : q11 (enc r ++ t) = (r.ticket.data.toList, ⟨(pre r 11).length, 0⟩) := by
    obtain ⟨z, hz⟩ := enc_split r 10 (by decide)
    unfold q11
    rw [e10]
    exact rT_at (p := pre r 10) (r := z ++ t) (hz t) rfl rfl (by rw [bytes_size]; have := hw.ticket; omega) (by rw [bytes_size]; have := hw.ticket; unfold mName; omega)
  have e12 : q12 (enc r ++ t) = (r.amts, ⟨(pre r 12).length, 0⟩) := by
    obtain ⟨z, hz⟩ := enc_split r 11 (by decide)
    unfold q12
    rw [e11]
    exact rIs_at (p := pre r 11) (r := z ++ t) (hz t) rfl rfl hf.amts (by have := hw.amts; omega) (by have := hw.amts; unfold mList; omega)
  exact ⟨e1, e2, e3, e4, e5, e6, e7, e8, e9, e10, e11, e12⟩
theorem got_enc {r : Rec} (hf : RecFit r) (hw : Within r) (t : List UInt8) : got (enc r ++ t) = r := by
  obtain ⟨e1, e2, e3, e4, e5, e6, e7, e8, e9, e10, e11, e12⟩ := qs hf hw t
  unfold got
  rw [e1, e2, e3, e4, e5, e6, e7, e8, e9, e10, e11, e12]
  simp only [Int.toNat_of_nonneg hf.key.1, Int.toNat_of_nonneg hf.nonce.1]
theorem dec_enc {r : Rec} (hf : RecFit r) (hw : Within r) : decErr (enc r) = 0 ∧ dec (enc r) = r := by
  have hq := (qs hf hw []).2.2.2.2.2.2.2.2.2.2.2
  have hg := got_enc hf hw []
  rw [List.append_nil] at hq hg
  have h : decErr (enc r) = 0 := by
    unfold decErr rLeft
    rw [hq]
    show (if (0 : Int) = 0 then _ else _) = _
    rw [if_pos rfl, if_neg]
    show ¬ 0 < (if (0 : Int) = 0 then (enc r).length - (pre r 12).length else 0)
    rw [if_pos rfl]
    unfold enc
    omega
  exact ⟨h, by unfold dec; rw [if_pos h, hg]⟩
theorem got_fit (bs : List UInt8) (hb : bs.length ≤ 9223372036854775807) : RecFit (got bs) := by
  refine ⟨(rI_fine (st0_ok bs)).2.1, (rI_fine (q1_ok bs)).2.1, (rI_fine (q2_ok bs)).2.1, (rI_fine (q3_ok bs)).2.1, (rI_fine (q4_ok bs)).2.1, ?_, ?_, (rIs_fine mList (q7_ok bs)).2.2.2.1, ?_, ?_, ?_, (rIs_fine mList (q11_ok bs)).2.2.2.1⟩
  · have := (rT_fine mName (q5_ok bs)).2.1
    exact Nat.le_trans this hb
  · have := (rT_fine mText (q6_ok bs)).2.1
    exact Nat.le_trans this hb
  · have := (rU_fine (q8_ok bs)).2.1
    exact ⟨Int.natCast_nonneg _, by show ((q9 bs).1 : Int) ≤ _; unfold q9; omega⟩
  · have := (rU_fine (q9_ok bs)).2.1
    exact ⟨Int.natCast_nonneg _, by show ((q10 bs).1 : Int) ≤ _; unfold q10; omega⟩
  · have := (rT_fine mName (q10_ok bs)).2.1
    exact Nat.le_trans this hb
end Go.Proofs.Ythpmngdpgniehaa.Jr
