/-
  The walk of write of package lotterylaw08 for greater items. Conditions: the items lie in memory, none of it the writer's.
-/
import Derived.Test.YteikdmkplbbckaaW8Items
namespace Go.Proofs.Yteikdmkplbbckaa.Wr
open Go.RowKit Go.Proofs.Yteikdmkplbbckaa.Mem Go.Proofs.Yteikdmkplbbckaa.Eqs

def It.mid (x : It) : Prop := x.s.size ≤ 20000 ∧ x.l.length ≤ 20000
theorem IsIt.enc_lenB {w : World} {G : Nat → Prop} {cs : Array Value} {x : It} (h : IsIt w G cs x) (hs : x.mid) : x.enc.length ≤ 240000 := by
  obtain ⟨A, c, _, _, _, hn, hu, hl, _⟩ := h
  unfold It.enc
  split
  · have := wInt_len hn; omega
  · split
    · have := uv_len64 hu; omega
    · split
      · have h2 : (uv x.s.data.toList.length).length ≤ 10 := uv_len64 (by have := hs.1; show x.s.size < _; omega)
        have h3 : x.s.data.toList.length = x.s.size := rfl
        unfold wText
        rw [List.length_append]
        have := hs.1
        omega
      · have := wInts_len hl (by have := hs.2; omega)
        have := hs.2
        omega

theorem encs_lenB {w : World} {G : Nat → Prop} {A : Option Addr} {xs : List It} (h : ItSl w G A xs) (hs : ∀ x ∈ xs, x.mid) (k : Nat) (hk : k ≤ xs.length) : (encs (xs.take k)).length ≤ 240000 * k := by
  induction k with
  | zero => simp [encs]
  | succ k ih =>
    have hl : k < xs.length := by omega
    obtain ⟨b, off, cs, _, _, _, hi, _⟩ := h k _ (List.getElem?_eq_getElem hl)
    have h1 := hi.enc_lenB (hs _ (List.getElem_mem hl))
    have h2 := ih (by omega)
    rw [encs_snoc xs k hl, List.length_append]
    omega

set_option maxRecDepth 100000 in
set_option maxHeartbeats 4000000 in
theorem write_big (p : Nat) (v : Value) (bs : List UInt8) (xs : List It) (G : Nat → Prop) (A : Option Addr) (n c : Nat) (w : World) (hw : Wr 66 w p v bs) (hn : xs.length = n) (hn2 : n ≤ 1000) (h : ItSl w G A xs) (hs : ∀ x ∈ xs, x.mid)
    (hG : ∀ k, G k → k < w.heap.size ∧ ¬ own p v k) (hl : Fit (bs.length + 240000 * n)) :
    Calls Try.prog 15 #[.pointer (some ⟨p, 0, none⟩), .slice A n c] w (WrPost 66 p v (bs ++ encs xs) w) := by
  have LN := Lib.hid hn
  have H := Lib.hid h
  have HW := Lib.hid hw
  have HS := Lib.hid hs
  have HG := Lib.hid hG
  clear hn h hw hs hG
  go_enter Try.func15, Try.ntmps15
  go_wp2_with fail
  go_loopw [7] (fun i wr => ∃ (k : Nat) (u : Value), k ≤ n ∧ i = .int .i64 k ∧ Hid (Wr 66 wr p u (bs ++ encs (xs.take k)) ∧ WrTo p v u w wr)) (fun i _ => n - (intOf i).toNat)
  case atStart => exact ⟨0, v, by omega, rfl, ⟨by simpa [encs] using HW.out, WrTo.refl _ _ _⟩⟩
  case round =>
    obtain ⟨k, u, hk, rfl, HR⟩ := hrel
    by_cases hlt : k < n
    · have kl : k < xs.length := by have := LN.out; omega
      have H2 := H.out.frm HR.out.2.1 fun j hj => (HG.out j hj).2
      have HLen : Hid (Fit ((bs ++ encs (xs.take k)).length + 240000)) := by
        refine hl.of ?_
        have := encs_lenB H.out HS.out k (by omega)
        rw [List.length_append]
        omega
      obtain ⟨b, off, cs, rfl, _, _, ⟨A2, c2, rfl, hsl, hg2, x1, x2, x3, _⟩, hc⟩ := H2 k _ (List.getElem?_eq_getElem kl)
      have q0 : wr.cell? ⟨b, off + k * 5, none⟩ = some (.int .i64 xs[k].kind) := hc 0 _ rfl
      have q1 := hc 1 _ rfl
      have q2 := hc 2 _ rfl
      have q3 := hc 3 _ rfl
      have q4 := hc 4 _ rfl
      have HSm := Lib.hid (HS.out _ (List.getElem_mem kl))
      have HE := Lib.hid (encs_snoc xs k kl)
      have hlti : (k : Int) < (n : Int) := by omega
      have h0i : (0 : Int) ≤ (k : Int) := by omega
      have X1 := Lib.hid x1
      have X2 := Lib.hid x2
      have X3 := Lib.hid x3
      have XS := Lib.hid hsl
      have XG : Hid (0 < xs[k].l.length → ∀ a, A2 = some a → ¬ own p u a.block) := fun h0 a ha hk => by
        rcases hk with hk | hk
        · exact (HG.out _ (hg2 h0 a ha)).2 (.inl hk)
        · rcases HR.out.2.2 _ hk with hk | hk
          · exact (HG.out _ (hg2 h0 a ha)).2 (.inr hk)
          · have := (HG.out _ (hg2 h0 a ha)).1
            omega
      have done : Hid (∀ e w1, WrPost 66 p u ((bs ++ encs (xs.take k)) ++ xs[k].enc) wr e w1 → e = .returned (.tuple #[]) ∧ ∃ v1, Wr 66 w1 p v1 (bs ++ encs (xs.take (k + 1))) ∧ WrTo p v v1 w w1) := fun e w1 ⟨he, v1, h1, h2⟩ =>
        ⟨he, v1, by rw [HE.out, ← List.append_assoc]; exact h1, HR.out.2.trans h2⟩
      clear hc H2 hsl hg2 x1 x2 x3
      generalize xs[k] = x at *
      by_cases k1 : x.kind = 1
      · have t1 : (x.kind == 1) = true := by simp [k1]
        rw [enc1 k1] at done
        clear k1
        go_wp2_with fail
        refine (wint_any p u _ x.n _ HR.out.1 X1.out (HLen.out.of (by omega))).mono ?_
        intro e w1 hp
        obtain ⟨rfl, v1, h1, h2⟩ := done.out e w1 hp
        have J1 := Lib.hid (And.intro h1 h2)
        clear hp h1 h2 done
        go_wp2_with fail
        go_roundw
        case rel => exact ⟨k + 1, v1, by omega, by go_num, J1⟩
        case measure => simp [intOf]; omega
      · have t1 : (x.kind == 1) = false := by simpa using k1
        by_cases k2 : x.kind = 2
        · have t2 : (x.kind == 2) = true := by simp [k2]
          rw [enc2 k2] at done
          clear k1 k2
          go_wp2_with fail
          refine (uint_any p u _ x.u _ HR.out.1 X2.out (HLen.out.of (by omega))).mono ?_
          intro e w1 hp
          obtain ⟨rfl, v1, h1, h2⟩ := done.out e w1 hp
          have J1 := Lib.hid (And.intro h1 h2)
          clear hp h1 h2 done
          go_wp2_with fail
          go_roundw
          case rel => exact ⟨k + 1, v1, by omega, by go_num, J1⟩
          case measure => simp [intOf]; omega
        · have t2 : (x.kind == 2) = false := by simpa using k2
          by_cases k3 : x.kind = 3
          · have t3 : (x.kind == 3) = true := by simp [k3]
            rw [enc3 k3] at done
            clear k1 k2 k3
            go_wp2_with fail
            refine (wtext_any p u _ x.s _ HR.out.1 (by have := HSm.out.1; omega) (HLen.out.of (by have := HSm.out.1; omega))).mono ?_
            intro e w1 hp
            obtain ⟨rfl, v1, h1, h2⟩ := done.out e w1 hp
            have J1 := Lib.hid (And.intro h1 h2)
            clear hp h1 h2 done
            go_wp2_with fail
            go_roundw
            case rel => exact ⟨k + 1, v1, by omega, by go_num, J1⟩
            case measure => simp [intOf]; omega
          · have t3 : (x.kind == 3) = false := by simpa using k3
            rw [enc4 k1 k2 k3] at done
            clear k1 k2 k3
            go_wp2_with fail
            refine (wints_any p u _ x.l A2 _ c2 _ HR.out.1 XS.out XG.out X3.out (by have := HSm.out.2; omega) (HLen.out.of (by have := HSm.out.2; omega))).mono ?_
            intro e w1 hp
            obtain ⟨rfl, v1, h1, h2⟩ := done.out e w1 hp
            have J1 := Lib.hid (And.intro h1 h2)
            clear hp h1 h2 done
            go_wp2_with fail
            go_roundw
            case rel => exact ⟨k + 1, v1, by omega, by go_num, J1⟩
            case measure => simp [intOf]; omega
    · obtain rfl : k = n := by omega
      have HT : Hid (xs.take k = xs) := List.take_of_length_le (by have := LN.out; omega)
      go_wp2_with fail
      go_end0
      have := HR.out
      rw [HT.out] at this
      exact ⟨rfl, u, this.1, this.2⟩
end Go.Proofs.Yteikdmkplbbckaa.Wr
