/-
  The plain law of receipts, with no program in sight: the signed part, the encoding, and what decoding gives. No conditions.
-/
import Derived.Test.YtjnaooiklcbemaaWrPlain
import Derived.Test.YtjnaooiklcbemaaDgPlain
namespace Go.Proofs.Ytjnaooiklcbemaa.Rt
open Go Go.Proofs.Ytjnaooiklcbemaa.Wr Go.Proofs.Ytjnaooiklcbemaa.Dg

/-- a receipt. -/
structure Rc where
  num : ByteArray
  game : ByteArray
  slip : ByteArray
  first : Int
  price : Int
  date : Int
  sign : Nat
def Rc.cells (r : Rc) : Array Value := #[.string r.num, .string r.game, .string r.slip, .int .i64 r.first, .int .i64 r.price, .int .i64 r.date, .int .u64 (r.sign : Int)]
def i64 (x : Int) : Prop := -9223372036854775808 ≤ x ∧ x ≤ 9223372036854775807
structure Rc.ok (r : Rc) : Prop where
  first : i64 r.first
  price : i64 r.price
  date : i64 r.date
  sign : r.sign < 18446744073709551616
/-- the signed part, as the writer joins it. -/
def Rc.part (r : Rc) : List UInt8 := [] ++ wText r.num.data.toList ++ wText r.game.data.toList ++ wText r.slip.data.toList ++ wInt r.first ++ wInt r.price ++ wInt r.date
def Rc.enc (r : Rc) : List UInt8 := r.part ++ uv r.sign
def Rc.signI (key : Int) (r : Rc) : Int := keyedI key r.part

/-! ### reading -/
def mName : Int := 24
def mText : Int := 32768
def q1 (bs : List UInt8) := rT bs mName ⟨0, 0⟩
def q2 (bs : List UInt8) := rT bs mName (q1 bs).2
def q3 (bs : List UInt8) := rT bs mText (q2 bs).2
def q4 (bs : List UInt8) := rI bs (q3 bs).2
def q5 (bs : List UInt8) := rI bs (q4 bs).2
def q6 (bs : List UInt8) := rI bs (q5 bs).2
def q7 (bs : List UInt8) := rU bs (q6 bs).2
def decErr (bs : List UInt8) : Int := if (q7 bs).2.err = 0 then (if 0 < rLeft bs (q7 bs).2 then 1 else 0) else (q7 bs).2.err
def got (bs : List UInt8) : Rc := ⟨⟨(q1 bs).1.toArray⟩, ⟨(q2 bs).1.toArray⟩, ⟨(q3 bs).1.toArray⟩, (q4 bs).1, (q5 bs).1, (q6 bs).1, (q7 bs).1⟩
def none_ : Rc := ⟨⟨#[]⟩, ⟨#[]⟩, ⟨#[]⟩, 0, 0, 0, 0⟩
def dec (bs : List UInt8) : Rc := if decErr bs = 0 then got bs else none_
theorem st0_ok (bs : List UInt8) : (⟨0, 0⟩ : RS).ok bs := ⟨Nat.zero_le _, by show (0 : Int) ≤ 0; omega, by show (0 : Int) ≤ 32; omega⟩
theorem q1_ok (bs : List UInt8) : (q1 bs).2.ok bs := (rT_fine mName (st0_ok bs)).1
theorem q2_ok (bs : List UInt8) : (q2 bs).2.ok bs := (rT_fine mName (q1_ok bs)).1
theorem q3_ok (bs : List UInt8) : (q3 bs).2.ok bs := (rT_fine mText (q2_ok bs)).1
theorem q4_ok (bs : List UInt8) : (q4 bs).2.ok bs := (rI_fine (q3_ok bs)).1
theorem q5_ok (bs : List UInt8) : (q5 bs).2.ok bs := (rI_fine (q4_ok bs)).1
theorem q6_ok (bs : List UInt8) : (q6 bs).2.ok bs := (rI_fine (q5_ok bs)).1
theorem q7_ok (bs : List UInt8) : (q7 bs).2.ok bs := (rU_fine (q6_ok bs)).1
theorem got_ok (bs : List UInt8) : (got bs).ok := ⟨(rI_fine (q3_ok bs)).2.1, (rI_fine (q4_ok bs)).2.1, (rI_fine (q5_ok bs)).2.1, (rU_fine (q6_ok bs)).2.1⟩
theorem none_ok : none_.ok := ⟨⟨by show (-9223372036854775808 : Int) ≤ 0; omega, by show (0 : Int) ≤ _; omega⟩, ⟨by show (-9223372036854775808 : Int) ≤ 0; omega, by show (0 : Int) ≤ _; omega⟩, ⟨by show (-9223372036854775808 : Int) ≤ 0; omega, by show (0 : Int) ≤ _; omega⟩, by show 0 < _; omega⟩
theorem dec_ok (bs : List UInt8) : (dec bs).ok := by
  unfold dec
  split
  · exact got_ok bs
  · exact none_ok
theorem toList_mk (l : List UInt8) : (⟨l.toArray⟩ : ByteArray).data.toList = l := rfl
/-- what was accepted has these bytes as its encoding. -/
theorem enc_dec {bs : List UInt8} (h : decErr bs = 0) : (dec bs).enc = bs := by
  have h7 : (q7 bs).2.err = 0 := by
    unfold decErr at h
    split at h
    · assumption
    · exact h
  have hl : rLeft bs (q7 bs).2 = 0 := by
    unfold decErr at h
    rw [if_pos h7] at h
    split at h
    · cases h
    · omega
  unfold dec
  rw [if_pos h]
  obtain ⟨e6, b7⟩ := rU_back (bs := bs) (s := (q6 bs).2) h7
  obtain ⟨e5, b6⟩ := rI_back (bs := bs) (s := (q5 bs).2) e6
  obtain ⟨e4, b5⟩ := rI_back (bs := bs) (s := (q4 bs).2) e5
  obtain ⟨e3, b4⟩ := rI_back (bs := bs) (s := (q3 bs).2) e4
  obtain ⟨e2, b3⟩ := rT_back (bs := bs) (s := (q2 bs).2) e3
  obtain ⟨e1, b2⟩ := rT_back (bs := bs) (s := (q1 bs).2) e2
  obtain ⟨_, b1⟩ := rT_back (bs := bs) (s := ⟨0, 0⟩) e1
  have hall : bs.take (q7 bs).2.pos = bs := by
    refine List.take_of_length_le ?_
    unfold rLeft at hl
    rw [if_pos h7] at hl
    omega
  show [] ++ wText (q1 bs).1 ++ wText (q2 bs).1 ++ wText (q3 bs).1 ++ wInt (q4 bs).1 ++ wInt (q5 bs).1 ++ wInt (q6 bs).1 ++ uv (q7 bs).1 = bs
  have c1 : bs.take (q1 bs).2.pos = [] ++ wText (q1 bs).1 := b1
  have c2 : bs.take (q2 bs).2.pos = bs.take (q1 bs).2.pos ++ wText (q2 bs).1 := b2
  have c3 : bs.take (q3 bs).2.pos = bs.take (q2 bs).2.pos ++ wText (q3 bs).1 := b3
  have c4 : bs.take (q4 bs).2.pos = bs.take (q3 bs).2.pos ++ wInt (q4 bs).1 := b4
  have c5 : bs.take (q5 bs).2.pos = bs.take (q4 bs).2.pos ++ wInt (q5 bs).1 := b5
  have c6 : bs.take (q6 bs).2.pos = bs.take (q5 bs).2.pos ++ wInt (q6 bs).1 := b6
  have c7 : bs.take (q7 bs).2.pos = bs.take (q6 bs).2.pos ++ uv (q7 bs).1 := b7
  rw [← c1, ← c2, ← c3, ← c4, ← c5, ← c6, ← c7]
  exact hall
/-! ### reading what was written -/
theorem rT_at {bs p r s : List UInt8} {most : Int} {k : Nat} (hb : bs = p ++ (wText s ++ r)) (hk : k = p.length) (hn : s.length < 18446744073709551616) (hm : (s.length : Int) ≤ max most 0) : rT bs most ⟨k, 0⟩ = (s, ⟨k + (wText s).length, 0⟩) := by
  subst hb hk
  exact rT_of hn hm
theorem rI_at {bs p r : List UInt8} {x : Int} {k : Nat} (hb : bs = p ++ (wInt x ++ r)) (hk : k = p.length) (h : i64 x) : rI bs ⟨k, 0⟩ = (x, ⟨k + (wInt x).length, 0⟩) := by
  subst hb hk
  exact rI_of h.1 h.2
theorem rU_at {bs p r : List UInt8} {x : Nat} {k : Nat} (hb : bs = p ++ (uv x ++ r)) (hk : k = p.length) (h : x < 18446744073709551616) : rU bs ⟨k, 0⟩ = (x, ⟨k + (uv x).length, 0⟩) := by
  subst hb hk
  exact rU_of h
structure Rc.short (r : Rc) : Prop where
  num : r.num.data.toList.length ≤ 24
  game : r.game.data.toList.length ≤ 24
  slip : r.slip.data.toList.length ≤ 2000
/-- the states of a reader behind the parts of a receipt, whatever comes behind the signed part. -/
theorem six {r : Rc} (hs : r.short) (ho : r.ok) (t : List UInt8) :
    (q1 (r.part ++ t)).1 = r.num.data.toList ∧ (q2 (r.part ++ t)).1 = r.game.data.toList ∧ (q3 (r.part ++ t)).1 = r.slip.data.toList ∧ (q4 (r.part ++ t)).1 = r.first ∧ (q5 (r.part ++ t)).1 = r.price ∧ q6 (r.part ++ t) = (r.date, ⟨r.part.length, 0⟩) := by
  have h1 := hs.num
  have h2 := hs.game
  have h3 := hs.slip
  have e1 : q1 (r.part ++ t) = (r.num.data.toList, ⟨0 + (wText r.num.data.toList).length, 0⟩) :=
    rT_at (p := []) (r := wText r.game.data.toList ++ wText r.slip.data.toList ++ wInt r.first ++ wInt r.price ++ wInt r.date ++ t) (by simp [Rc.part]) rfl (by omega) (by unfold mName; omega)
  have e2 : q2 (r.part ++ t) = (r.game.data.toList, ⟨0 + (wText r.num.data.toList).length + (wText r.game.data.toList).length, 0⟩) := by
    unfold q2
    rw [e1]
    exact rT_at (p := wText r.num.data.toList) (r := wText r.slip.data.toList ++ wInt r.first ++ wInt r.price ++ wInt r.date ++ t) (by simp [Rc.part]) (by simp) (by omega) (by unfold mName; omega)
  have e3 : q3 (r.part ++ t) = (r.slip.data.toList, ⟨0 + (wText r.num.data.toList).length + (wText r.game.data.toList).length + (wText r.slip.data.toList).length, 0⟩) := by
    unfold q3
    rw [e2]
    exact rT_at (p := wText r.num.data.toList ++ wText r.game.data.toList) (r := wInt r.first ++ wInt r.price ++ wInt r.date ++ t) (by simp [Rc.part]) (by simp) (by omega) (by unfold mText; omega)
  have e4 : q4 (r.part ++ t) = (r.first, ⟨0 + (wText r.num.data.toList).length + (wText r.game.data.toList).length + (wText r.slip.data.toList).length + (wInt r.first).length, 0⟩) := by
    unfold q4
    rw [e3]
    exact rI_at (p := wText r.num.data.toList ++ wText r.game.data.toList ++ wText r.slip.data.toList) (r := wInt r.price ++ wInt r.date ++ t) (by simp [Rc.part]) (by simp; omega) ho.first
  have e5 : q5 (r.part ++ t) = (r.price, ⟨0 + (wText r.num.data.toList).length + (wText r.game.data.toList).length + (wText r.slip.data.toList).length + (wInt r.first).length + (wInt r.price).length, 0⟩) := by
    unfold q5
    rw [e4]
    exact rI_at (p := wText r.num.data.toList ++ wText r.game.data.toList ++ wText r.slip.data.toList ++ wInt r.first) (r := wInt r.date ++ t) (by simp [Rc.part]) (by simp; omega) ho.price
  have e6 : q6 (r.part ++ t) = (r.date, ⟨0 + (wText r.num.data.toList).length + (wText r.game.data.toList).length + (wText r.slip.data.toList).length + (wInt r.first).length + (wInt r.price).length + (wInt r.date).length, 0⟩) := by
    unfold q6
    rw [e5]
    exact rI_at (p := wText r.num.data.toList ++ wText r.game.data.toList ++ wText r.slip.data.toList ++ wInt r.first ++ wInt r.price) (r := t) (by simp [Rc.part]) (by simp; omega) ho.date
  have el : 0 + (wText r.num.data.toList).length + (wText r.game.data.toList).length + (wText r.slip.data.toList).length + (wInt r.first).length + (wInt r.price).length + (wInt r.date).length = r.part.length := by
    simp [Rc.part]
    omega
  rw [el] at e6
  exact ⟨by rw [e1], by rw [e2], by rw [e3], by rw [e4], by rw [e5], e6⟩
theorem seven {r : Rc} (hs : r.short) (ho : r.ok) (t : List UInt8) : q7 (r.enc ++ t) = (r.sign, ⟨r.enc.length, 0⟩) ∧ got (r.enc ++ t) = r := by
  have e : r.enc ++ t = r.part ++ (uv r.sign ++ t) := by unfold Rc.enc; rw [List.append_assoc]
  obtain ⟨a1, a2, a3, a4, a5, a6⟩ := six hs ho (uv r.sign ++ t)
  have e7 : q7 (r.part ++ (uv r.sign ++ t)) = (r.sign, ⟨r.part.length + (uv r.sign).length, 0⟩) := by
    unfold q7
    rw [a6]
    exact rU_at (p := r.part) (r := t) rfl rfl ho.sign
  rw [e]
  refine ⟨by rw [e7]; simp [Rc.enc], ?_⟩
  unfold got
  rw [a1, a2, a3, a4, a5, a6, e7]
theorem dec_enc {r : Rc} (hs : r.short) (ho : r.ok) : decErr r.enc = 0 ∧ dec r.enc = r := by
  obtain ⟨e7, eg⟩ := seven hs ho []
  rw [List.append_nil] at e7 eg
  have h : decErr r.enc = 0 := by
    unfold decErr rLeft
    rw [e7]
    simp
  exact ⟨h, by unfold dec; rw [if_pos h, eg]⟩
theorem dec_more {r : Rc} (hs : r.short) (ho : r.ok) (c : UInt8) : decErr (r.enc ++ [c]) = 1 := by
  obtain ⟨e7, _⟩ := seven hs ho [c]
  unfold decErr rLeft
  rw [e7]
  simp
theorem enc_pos (r : Rc) : 0 < r.enc.length := by
  have := uv_pos r.sign
  unfold Rc.enc
  rw [List.length_append]
  omega
theorem enc_dropLast (r : Rc) : r.enc.take (r.enc.length - 1) = r.part ++ (uv r.sign).take ((uv r.sign).length - 1) := by
  have := uv_pos r.sign
  unfold Rc.enc
  rw [List.length_append, List.take_append, List.take_of_length_le (by omega)]
  congr 2
  omega
theorem dec_less {r : Rc} (hs : r.short) (ho : r.ok) : decErr (r.enc.take (r.enc.length - 1)) = 28 := by
  rw [enc_dropLast]
  obtain ⟨_, _, _, _, _, a6⟩ := six hs ho ((uv r.sign).take ((uv r.sign).length - 1))
  have := uv_pos r.sign
  have e7 : q7 (r.part ++ (uv r.sign).take ((uv r.sign).length - 1)) = (0, ⟨r.part.length, 28⟩) := by
    unfold q7
    rw [a6]
    refine rU_err rfl ?_
    show vt 0 (List.drop r.part.length _) = _
    rw [drop_at]
    exact vt_cut 0 r.sign _ (by omega) ho.sign (by omega)
  unfold decErr
  rw [e7]
  rfl
/-! ### the signed part says the fields -/
theorem big_text {s p r : List UInt8} (hn : s.length < 18446744073709551616) : rT (p ++ (wText s ++ r)) 18446744073709551615 ⟨p.length, 0⟩ = (s, ⟨p.length + (wText s).length, 0⟩) := rT_of hn (by omega)
theorem text_inj {a b r t : List UInt8} (ha : a.length ≤ 2000) (hb : b.length ≤ 2000) (h : wText a ++ r = wText b ++ t) : a = b ∧ r = t := by
  have h1 := rT_of (p := []) (r := r) (s := a) (most := 2000) (by omega) (by omega)
  have h2 := rT_of (p := []) (r := t) (s := b) (most := 2000) (by omega) (by omega)
  rw [h, h2] at h1
  have e : a = b := (congrArg Prod.fst h1).symm
  subst e
  exact ⟨rfl, List.append_cancel_left h⟩
theorem int_inj {x y : Int} {r t : List UInt8} (hx : i64 x) (hy : i64 y) (h : wInt x ++ r = wInt y ++ t) : x = y ∧ r = t := by
  have h1 := rI_of (p := []) (r := r) hx.1 hx.2
  have h2 := rI_of (p := []) (r := t) hy.1 hy.2
  rw [h, h2] at h1
  have e : x = y := (congrArg Prod.fst h1).symm
  subst e
  exact ⟨rfl, List.append_cancel_left h⟩
structure Rc.few (r : Rc) : Prop where
  num : r.num.data.toList.length ≤ 2000
  game : r.game.data.toList.length ≤ 2000
  slip : r.slip.data.toList.length ≤ 2000
theorem data_inj {a b : ByteArray} (h : a.data.toList = b.data.toList) : a = b := by
  cases a; cases b
  simp at h
  rw [h]
theorem part_inj {a b : Rc} (ha : a.few) (hb : b.few) (oa : a.ok) (ob : b.ok) (h : a.part = b.part) : a.num = b.num ∧ a.game = b.game ∧ a.slip = b.slip ∧ a.first = b.first ∧ a.price = b.price ∧ a.date = b.date := by
  have h0 : wText a.num.data.toList ++ (wText a.game.data.toList ++ (wText a.slip.data.toList ++ (wInt a.first ++ (wInt a.price ++ (wInt a.date ++ []))))) = wText b.num.data.toList ++ (wText b.game.data.toList ++ (wText b.slip.data.toList ++ (wInt b.first ++ (wInt b.price ++ (wInt b.date ++ []))))) := by
    simpa [Rc.part] using h
  obtain ⟨e1, h1⟩ := text_inj ha.num hb.num h0
  obtain ⟨e2, h2⟩ := text_inj ha.game hb.game h1
  obtain ⟨e3, h3⟩ := text_inj ha.slip hb.slip h2
  obtain ⟨e4, h4⟩ := int_inj oa.first ob.first h3
  obtain ⟨e5, h5⟩ := int_inj oa.price ob.price h4
  obtain ⟨e6, _⟩ := int_inj oa.date ob.date h5
  exact ⟨data_inj e1, data_inj e2, data_inj e3, e4, e5, e6⟩
theorem part_of {a b : Rc} (h1 : a.num = b.num) (h2 : a.game = b.game) (h3 : a.slip = b.slip) (h4 : a.first = b.first) (h5 : a.price = b.price) (h6 : a.date = b.date) : a.part = b.part := by
  unfold Rc.part
  rw [h1, h2, h3, h4, h5, h6]
theorem uv_zero : uv 0 = [0] := uv_small (by decide)
/-- the encoding with the signature 0, without the last byte. -/
theorem part_len (r : Rc) : ({ r with sign := 0 } : Rc).enc = r.part ++ [0] := by
  show ({ r with sign := 0 } : Rc).part ++ uv 0 = _
  rw [uv_zero]
  rfl
end Go.Proofs.Ytjnaooiklcbemaa.Rt
