/-
  The walk of run: all parties commit themselves, some open their values, in an order from a first one on. Conditions: the lists lie in memory.
-/
import Derived.Test.YtdgekhbmcmojdaaCmA
import Derived.Test.YtdgekhbmcmojdaaCmP4
import Derived.Test.YtdgekhbmcmojdaaReg
namespace Go.Proofs.Ytdgekhbmcmojdaa.Cm
open Go.RowKit Go.Proofs.Ytdgekhbmcmojdaa.Mem Go.Proofs.Ytdgekhbmcmojdaa.Dg Go.Proofs.Ytdgekhbmcmojdaa.Mp

def u64s (l : List Int) : List Value := l.map (Value.int .u64)
def bools (l : List Bool) : List Value := l.map Value.bool
def fv (xs : List Int) (k : Nat) : Int := (xs[k]?).getD 0
def fo (os : List Bool) (k : Nat) : Bool := (os[k]?).getD false
theorem fv_u64 {xs : List Int} (h : ∀ z ∈ xs, U64 z) (k : Nat) : U64 (fv xs k) := by
  unfold fv
  cases hk : xs[k]? with
  | none => show U64 0; unfold U64; omega
  | some z => exact h z (List.mem_of_getElem? hk)
theorem u64s_at {w : World} {A : Option Addr} {n k : Nat} {xs : List Int} (h : Sl w 1 A n (u64s xs)) (hk : k < n) : ∃ b off, A = some ⟨b, off, none⟩ ∧ w.cell? ⟨b, off + k, none⟩ = some (.int .u64 (fv xs k)) := by
  obtain ⟨b, off, e, hc⟩ := h.open_ (by omega)
  refine ⟨b, off, e, hc k _ ?_⟩
  have hl : xs.length = n := by have := h.1; simpa [u64s] using this
  unfold u64s fv
  rw [List.getElem?_map, List.getElem?_eq_getElem (by omega)]
  rfl
theorem bools_at {w : World} {A : Option Addr} {n k : Nat} {os : List Bool} (h : Sl w 1 A n (bools os)) (hk : k < n) : ∃ b off, A = some ⟨b, off, none⟩ ∧ w.cell? ⟨b, off + k, none⟩ = some (.bool (fo os k)) := by
  obtain ⟨b, off, e, hc⟩ := h.open_ (by omega)
  refine ⟨b, off, e, hc k _ ?_⟩
  have hl : os.length = n := by have := h.1; simpa [bools] using this
  unfold bools fo
  rw [List.getElem?_map, List.getElem?_eq_getElem (by omega)]
  rfl
theorem fo_no {w : World} {A : Option Addr} {n k : Nat} {os : List Bool} (h : Sl w 1 A n (bools os)) (hk : ¬ k < n) : fo os k = false := by
  have hl : os.length = n := by have := h.1; simpa [bools] using this
  unfold fo
  rw [List.getElem?_eq_none (by omega)]
  rfl
theorem wrap_small {x : Int} (h1 : -100 ≤ x) (h2 : x ≤ 100) : wrap64 x = x := IntWalk.wrap64_in _ ⟨by omega, by omega⟩
theorem u64_small {k : Nat} (h : k < 100) : U64 ((k : Int) + 1) := by unfold U64; omega
theorem wrap_next {k : Nat} (h : k < 100) : IntKind.u64.wrap ((k : Int) + 1) = (k : Int) + 1 := wrap_in (u64_small h)
theorem i64_small {k : Nat} (h : k < 100) : I64 ((k : Int) + 1) := ⟨by omega, by omega⟩
theorem facts2 {n f l k : Nat} (h8 : n ≤ 8) (hf : f < n) (hl : l < n) (hk : k < n) : wrap64 ((n : Int) - 1) = (n : Int) - 1 ∧ wrap64 ((n : Int) - 1 - (l : Int)) = (n : Int) - 1 - (l : Int) ∧ wrap64 ((n : Int) - 1 - (l : Int) + (f : Int)) = (n : Int) - 1 - (l : Int) + (f : Int) ∧ wrap64 ((k : Int)) = (k : Int) ∧ wrap64 ((k : Int) + 1) = (k : Int) + 1 ∧ IntKind.u64.wrap ((k : Int) + 1) = (k : Int) + 1 ∧ k < 100 ∧ (n : Int) ≠ 0 :=
  ⟨wrap_small (by omega) (by omega), wrap_small (by omega) (by omega), wrap_small (by omega) (by omega), wrap_small (by omega) (by omega), wrap_small (by omega) (by omega), wrap_next (by omega), by omega, by omega⟩
theorem qI_mod {n f l : Nat} (hf : f < n) (hl : l < n) : ((n : Int) - 1 - (l : Int) + (f : Int)).tmod (n : Int) = (qI n f l : Int) := by
  have hm := pI_mod (i := n - 1 - l) hf (by omega)
  rw [show ((n - 1 - l : Nat) : Int) = (n : Int) - 1 - (l : Int) from by omega] at hm
  exact hm
set_option maxRecDepth 100000 in
set_option maxHeartbeats 8000000 in
theorem run_any (xs : List Int) (os : List Bool) (A B : Option Addr) (n c m c2 f : Nat) (w : World) (hs : Sl w 1 A n (u64s xs)) (hb : Sl w 1 B m (bools os)) (hu : ∀ z ∈ xs, U64 z) (h1 : 1 ≤ n) (h8 : n ≤ 8) (hf : f < n) :
    Calls Try.prog 28 #[.slice A n c, .slice B m c2, .int .i64 (f : Int)] w fun e w' => e = .returned (.tuple #[.int .u64 (runS (fv xs) (fo os) n), .int .i64 (runE (fo os) n)]) ∧ Below w.heap.size w w' := by
  have HS := Lib.hid hs
  have HB := Lib.hid hb
  have HU : Hid (∀ k, U64 (fv xs k)) := Lib.hid (fv_u64 hu)
  have HF := Lib.hid hf
  have H1 := Lib.hid h1
  have H8 := Lib.hid h8
  clear hs hb hu
  go_enter Try.func28, Try.ntmps28
  go_wp2_with fail
  refine (new_to _ (by omega) (by omega) (by omega) (by omega)).mono ?_
  rintro e v0 ⟨g, d, v, rfl, c0, o0, b0⟩
  have C0 : Hid (Cm v0 g d v (cSt n f (fv xs) 0)) := Lib.hid c0
  have B0 := Lib.hid b0
  have HNO : Hid (∀ i, i < w.heap.size → ¬ own3 g d v i) := Lib.hid (fun i hi hk => by have := o0 i hk; omega)
  clear o0 b0 c0
  go_wp2_with fail
  go_loopw [11] (fun j wr => ∃ (i : Nat), i ≤ n ∧ j = .int .i64 i ∧ Hid (Cm wr g d v (cSt n f (fv xs) i)) ∧ Hid (Below w.heap.size w wr)) (fun j _ => n - (intOf j).toNat)
  case atStart => exact ⟨0, by omega, rfl, C0, B0⟩
  case round =>
    obtain ⟨i, hi, rfl, HC, HL⟩ := hrel
    clear C0 B0
    by_cases hlt : i < n
    · have hlti : (i : Int) < (n : Int) := by omega
      have hm := pI_mod hf hlt
      obtain ⟨k, hk⟩ : ∃ k, pI n f i = k := ⟨_, rfl⟩
      have hkn : k < n := by rw [← hk]; exact pI_lt hf hlt
      rw [hk] at hm
      have HCM : Hid (comE (cSt n f (fv xs) i) ((k : Int) + 1) = 0 ∧ com (cSt n f (fv xs) i) ((k : Int) + 1) (digI ((k : Int) + 1) (fv xs k) ((k : Int) + 1)) = cSt n f (fv xs) (i + 1)) := Lib.hid (by rw [← hk]; exact cSt_com hf hlt)
      have w1 : wrap64 ((i : Int) + (f : Int)) = (i : Int) + (f : Int) := wrap_small (by omega) (by omega)
      have w2 : wrap64 ((k : Int)) = (k : Int) := wrap_small (by omega) (by omega)
      have w3 : wrap64 ((k : Int) + 1) = (k : Int) + 1 := wrap_small (by omega) (by omega)
      have w4 : IntKind.u64.wrap ((k : Int) + 1) = (k : Int) + 1 := wrap_next (by omega)
      obtain ⟨b1, o1, rfl, qv⟩ := u64s_at (HS.out.below HL.out (Nat.le_refl _)) hkn
      have hn0 : (n : Int) ≠ 0 := by omega
      clear hk
      go_wp2_with fail
      refine (digest_any _ _ _ _ (u64_small (by omega))).mono ?_
      rintro e v1 ⟨rfl, b1⟩
      have C1 := Lib.hid (HC.out.below b1)
      have L1 := Lib.hid (HL.out.trans (b1.mono HL.out.size))
      clear b1 qv
      go_wp2_with fail
      refine (commit_to C1.out (i64_small (by omega)) (digI_u64 _ _ _) (short (show (lst _ _ _ i).length ≤ 100 by rw [lst_all_len]; omega)) HCM.out).mono ?_
      rintro e v2 ⟨rfl, c2, f2⟩
      have C2 := Lib.hid c2
      have L2 := Lib.hid (L1.out.trans (f2.below L1.out.size HNO.out))
      clear c2 f2 C1 L1 HCM
      go_wp2_with fail
      go_roundw
      case rel => exact ⟨i + 1, by omega, by go_num, C2, L2⟩
      case measure => simp [intOf]; omega
    · obtain rfl : i = n := by omega
      clear hlt
      go_wp2_with fail
      refine (lock_to HC.out (cSt_lock (op := fo os) H1.out)).mono ?_
      rintro e v1 ⟨rfl, c1, f1⟩
      have C1 := Lib.hid c1
      have L1 := Lib.hid (HL.out.trans (f1.below HL.out.size HNO.out))
      clear c1 f1 HC HL
      go_wp2_with fail
      go_loopw [13] (fun j wr => ∃ (l : Nat), l ≤ i ∧ j = .int .i64 l ∧ Hid (Cm wr g d v (lSt i f (fv xs) (fo os) l)) ∧ Hid (Below w.heap.size w wr)) (fun j _ => i - (intOf j).toNat)
      case atStart => exact ⟨0, by omega, rfl, C1, L1⟩
      case round =>
        obtain ⟨l, hl, rfl, HC, HL⟩ := hrel
        clear C1 L1
        by_cases hlt : l < i
        · have hlti : (l : Int) < (i : Int) := by omega
          have hm := qI_mod hf hlt
          obtain ⟨k, hk⟩ : ∃ k, qI i f l = k := ⟨_, rfl⟩
          have hkn : k < i := by rw [← hk]; exact qI_lt hf hlt
          rw [hk] at hm
          obtain ⟨w1, w5, w6, w2, w3, w4, k100, hn0⟩ := facts2 H8.out hf hlt hkn
          have l100 : l ≤ 100 := Nat.le_trans hl (Nat.le_trans H8.out (by decide))
          have HSK : Hid (fo os k = false → lSt i f (fv xs) (fo os) (l + 1) = lSt i f (fv xs) (fo os) l) := Lib.hid (by rw [← hk]; exact lSt_skip)
          have HRV : Hid (fo os k = true → revE (lSt i f (fv xs) (fo os) l) ((k : Int) + 1) (fv xs k) ((k : Int) + 1) = 0 ∧ rev (lSt i f (fv xs) (fo os) l) ((k : Int) + 1) (fv xs k) ((k : Int) + 1) = lSt i f (fv xs) (fo os) (l + 1)) := Lib.hid (by rw [← hk]; exact lSt_rev hf hlt)
          clear hk
          by_cases hkm : k < m
          · have hle : (k : Int) + 1 ≤ (m : Int) := by omega
            have td : decide ((k : Int) + 1 ≤ (m : Int)) = true := by simp; omega
            have hkmi : (k : Int) < (m : Int) := by omega
            obtain ⟨b2, o2, rfl, qb⟩ := bools_at (HB.out.below HL.out (Nat.le_refl _)) hkm
            cases ho : fo os k with
            | true =>
              rw [ho] at qb
              have RV := Lib.hid (HRV.out ho)
              obtain ⟨b1, o1, rfl, qv⟩ := u64s_at (HS.out.below HL.out (Nat.le_refl _)) hkn
              clear HRV HSK ho
              go_wp2_with fail
              refine (reveal_to HC.out (i64_small k100) (HU.out k) (u64_small k100) (short (show (lst _ _ _ l).length ≤ 100 from Nat.le_trans (lst_len l) l100)) RV.out).mono ?_
              rintro e v2 ⟨rfl, c2, f2⟩
              have C2 := Lib.hid c2
              have L2 := Lib.hid (HL.out.trans (f2.below HL.out.size HNO.out))
              clear c2 f2 qv qb
              go_wp2_with fail
              go_roundw
              case rel => exact ⟨l + 1, by omega, by go_num, C2, L2⟩
              case measure => simp [intOf]; omega
            | false =>
              rw [ho] at qb
              have C2 : Hid (Cm wr g d v (lSt i f (fv xs) (fo os) (l + 1))) := Lib.hid (by rw [HSK.out ho]; exact HC.out)
              clear HRV HSK ho
              go_wp2_with fail
              go_roundw
              case rel => exact ⟨l + 1, by omega, by go_num, C2, HL⟩
              case measure => simp [intOf]; omega
          · have hle : (m : Int) < (k : Int) + 1 := by omega
            have td : decide ((k : Int) + 1 ≤ (m : Int)) = false := by simp; omega
            have C2 : Hid (Cm wr g d v (lSt i f (fv xs) (fo os) (l + 1))) := Lib.hid (by rw [HSK.out (fo_no HB.out hkm)]; exact HC.out)
            clear HRV HSK
            go_wp2_with fail
            go_roundw
            case rel => exact ⟨l + 1, by omega, by go_num, C2, HL⟩
            case measure => simp [intOf]; omega
        · obtain rfl : l = i := by omega
          clear hlt
          go_wp2_with fail
          refine (seed_to HC.out (lSt_ok HF.out H8.out (fun k _ => HU.out k) (Nat.le_refl _)) (lSt_seed HF.out)).mono ?_
          rintro e v2 ⟨rfl, b2⟩
          have L2 := Lib.hid (HL.out.trans (b2.mono HL.out.size))
          clear b2
          go_wp2_with fail
          go_ret2
          exact ⟨rfl, L2.out⟩
end Go.Proofs.Ytdgekhbmcmojdaa.Cm
