/-
  The plain law of a record's encoding: its parts, and how long they are. No conditions.
-/
import Derived.Test.YthpmngdpgniehaaJrSame
import Derived.Test.YthpmngdpgniehaaWrW2
import Derived.Test.YthpmngdpgniehaaOpenRec
namespace Go.Proofs.Ythpmngdpgniehaa.Jr
open Go Go.RowKit Go.Proofs.Ythpmngdpgniehaa.Mem Go.Proofs.Ythpmngdpgniehaa.Wr Go.Proofs.Ythpmngdpgniehaa.Opn

/-- what the writer writes for each field. -/
def part (r : Rec) : Nat → List UInt8
  | 0 => wInt r.k0
  | 1 => wInt r.k1
  | 2 => wInt r.k2
  | 3 => wInt r.k3
  | 4 => wInt r.k4
  | 5 => wText r.name.data.toList
  | 6 => wText r.text.data.toList
  | 7 => wInts r.nums
  | 8 => uv r.key.toNat
  | 9 => uv r.nonce.toNat
  | 10 => wText r.ticket.data.toList
  | _ => wInts r.amts
def pre (r : Rec) : Nat → List UInt8
  | 0 => []
  | k + 1 => pre r k ++ part r k
/-- the encoding. -/
def enc (r : Rec) : List UInt8 := pre r 12
/-- texts and lists that a writer can write. -/
structure Lim (r : Rec) : Prop where
  name : r.name.size ≤ 100000
  text : r.text.size ≤ 100000
  nums : r.nums.length ≤ 5000
  ticket : r.ticket.size ≤ 100000
  amts : r.amts.length ≤ 5000
theorem text_len (l : List UInt8) (h : l.length ≤ 100000) : (wText l).length ≤ 100010 := by
  have := uv_len64 (n := l.length) (by omega)
  unfold wText
  rw [List.length_append]
  omega
theorem ints_len' {l : List Int} (h : ∀ x ∈ l, I64 x) (hl : l.length ≤ 5000) : (wInts l).length ≤ 100010 := by
  have h1 := wIntsL_len h
  have h2 := uv_len64 (n := l.length) (by omega)
  unfold wInts
  rw [List.length_append]
  omega
theorem n64_key {x : Int} (h : 0 ≤ x ∧ x ≤ 18446744073709551615) : N64 x.toNat := by unfold N64; omega
theorem int_len {x : Int} (h : I64 x) : (wInt x).length ≤ 100010 := Nat.le_trans (wInt_len h) (by decide)
theorem uv_len' {n : Nat} (h : N64 n) : (uv n).length ≤ 100010 := Nat.le_trans (uv_len64 h) (by decide)
theorem part_len {r : Rec} (hf : RecFit r) (hl : Lim r) (k : Nat) : (part r k).length ≤ 100010 := by
  unfold part
  split
  · exact int_len hf.k0
  · exact int_len hf.k1
  · exact int_len hf.k2
  · exact int_len hf.k3
  · exact int_len hf.k4
  · exact text_len _ hl.name
  · exact text_len _ hl.text
  · exact ints_len' hf.nums hl.nums
  · exact uv_len' (n64_key hf.key)
  · exact uv_len' (n64_key hf.nonce)
  · exact text_len _ hl.ticket
  · exact ints_len' hf.amts hl.amts
theorem pre_len {r : Rec} (hf : RecFit r) (hl : Lim r) : ∀ k, (pre r k).length ≤ k * 100010
  | 0 => Nat.zero_le _
  | k + 1 => by
    have h1 := pre_len hf hl k
    have h2 := part_len hf hl k
    rw [pre, List.length_append]
    omega
theorem fit_pre {r : Rec} (hf : RecFit r) (hl : Lim r) (k m : Nat) (hk : k ≤ 12) (hm : m ≤ 200000) : Fit ((pre r k).length + m) := by
  have := pre_len hf hl k
  unfold Fit
  omega
theorem fit_pre2 {r : Rec} (hf : RecFit r) (hl : Lim r) (k m : Nat) (hk : k ≤ 12) (hm : m ≤ 100000) : Fit ((pre r k).length + 10 + m) := by
  rw [Nat.add_assoc]
  exact fit_pre hf hl k _ hk (by omega)
theorem fit_pre3 {r : Rec} (hf : RecFit r) (hl : Lim r) (k m : Nat) (hk : k ≤ 12) (hm : m ≤ 5000) : Fit ((pre r k).length + 10 + 10 * m) := fit_pre2 hf hl k _ hk (by omega)
/-- blocks of the writer are new. -/
theorem own_new {g : Nat} {v : Value} {w w1 wk : World} (hg : w.heap.size ≤ g) (hb : w.heap.size ≤ w1.heap.size) (ht : WrTo g (.slice none 0 0) v w1 wk) {k : Nat} (h : own g v k) : w.heap.size ≤ k := by
  rcases h with rfl | h
  · exact hg
  · rcases ht.2 k h with h2 | h2
    · cases h2
    · exact Nat.le_trans hb h2
theorem own_none {g : Nat} {k B : Nat} (hg : B ≤ g) (h : own g (.slice none 0 0) k) : B ≤ k := by
  rcases h with rfl | h
  · exact hg
  · cases h
theorem sl_old {w : World} {A : Option Addr} {n : Nat} {xs : List Value} (h : Sl w 1 A n xs) (hn : 0 < n) : ∀ a, A = some a → a.block < w.heap.size := by
  intro a ha
  obtain ⟨b, off, e, hc⟩ := h.open_ hn
  have hl : 0 < xs.length := by rw [h.1]; omega
  have := World.block_lt_of_cell? w _ (hc 0 xs[0] (List.getElem?_eq_getElem hl))
  rw [e] at ha
  injection ha with ha
  subst ha
  exact this
end Go.Proofs.Ythpmngdpgniehaa.Jr
