/-
  The items of chapter 8's statements in memory; the walks of few and write. Conditions: the items lie in memory, none of it the writer's.
-/
import Derived.Test.YteikdmkplbbckaaW8Awake
namespace Go.Proofs.Yteikdmkplbbckaa.Wr
open Go.RowKit Go.Proofs.Yteikdmkplbbckaa.Mem Go.Proofs.Yteikdmkplbbckaa.Eqs

/-- an item: what is written. -/
structure It where
  kind : Int
  n : Int
  u : Nat
  s : ByteArray
  l : List Int
def It.enc (x : It) : List UInt8 := if x.kind = 1 then wInt x.n else if x.kind = 2 then uv x.u else if x.kind = 3 then wText x.s.data.toList else wInts x.l
def encs (l : List It) : List UInt8 := l.flatMap It.enc
def It.small (x : It) : Prop := x.s.size ≤ 5000 ∧ x.l.length ≤ 5000
def fewIt (l : List It) : Prop := l.length ≤ 200 ∧ ∀ x ∈ l, x.small
/-- the cells cs are the item x; what it leads to lies in blocks of G. -/
def IsIt (w : World) (G : Nat → Prop) (cs : Array Value) (x : It) : Prop :=
  ∃ A c, cs = #[.int .i64 x.kind, .int .i64 x.n, .int .u64 (x.u : Int), .string x.s, .slice A x.l.length c] ∧ Sl w 1 A x.l.length (ints x.l) ∧ (0 < x.l.length → ∀ a, A = some a → G a.block) ∧ I64 x.n ∧ N64 x.u ∧ (∀ y ∈ x.l, I64 y) ∧ x.l.length ≤ 9223372036854775807 ∧ x.s.size ≤ 9223372036854775807
def ItSl (w : World) (G : Nat → Prop) (A : Option Addr) (xs : List It) : Prop :=
  ∀ k x, xs[k]? = some x → ∃ b off cs, A = some ⟨b, off, none⟩ ∧ G b ∧ cs.size = 5 ∧ IsIt w G cs x ∧ ∀ j v, cs[j]? = some v → w.cell? ⟨b, off + k * 5 + j, none⟩ = some v
theorem Sl_frm {w w' : World} {F : Nat → Prop} {size n : Nat} {A : Option Addr} {xs : List Value} (h : Sl w size A n xs) (hf : Frm F w w') (hn : 0 < n → ∀ a, A = some a → ¬ F a.block) : Sl w' size A n xs :=
  ⟨h.1, fun h0 => by
    obtain ⟨b, off, rfl, hc⟩ := h.2 h0
    exact ⟨b, off, rfl, fun j u hu => hf.cell (p := ⟨b, off + j, none⟩) (hc j u hu) (hn h0 ⟨b, off, none⟩ rfl)⟩⟩
theorem IsIt.frm {w w' : World} {F G : Nat → Prop} {cs : Array Value} {x : It} (h : IsIt w G cs x) (hf : Frm F w w') (hn : ∀ k, G k → ¬ F k) : IsIt w' G cs x := by
  obtain ⟨A, c, e, hs, hg, r⟩ := h
  exact ⟨A, c, e, Sl_frm hs hf fun h0 a ha => hn _ (hg h0 a ha), hg, r⟩
theorem ItSl.frm {w w' : World} {F G : Nat → Prop} {A : Option Addr} {xs : List It} (h : ItSl w G A xs) (hf : Frm F w w') (hn : ∀ k, G k → ¬ F k) : ItSl w' G A xs := by
  intro k x hx
  obtain ⟨b, off, cs, e, hb, h5, hi, hc⟩ := h k x hx
  exact ⟨b, off, cs, e, hb, h5, hi.frm hf hn, fun j v hv => hf.cell (p := ⟨b, off + k * 5 + j, none⟩) (hc j v hv) (hn b hb)⟩
theorem ItSl.below {w w' : World} {G : Nat → Prop} {A : Option Addr} {xs : List It} {B : Nat} (h : ItSl w G A xs) (hb : Below B w w') (hB : ∀ k, G k → k < B) : ItSl w' G A xs :=
  h.frm (F := fun k => B ≤ k) (Frm.of_below hb fun _ _ h => h) fun k hk h => by have := hB k hk; omega
theorem encs_snoc (l : List It) (k : Nat) (h : k < l.length) : encs (l.take (k + 1)) = encs (l.take k) ++ l[k].enc := by
  unfold encs
  rw [List.take_succ_eq_append_getElem h, List.flatMap_append]
  simp only [List.flatMap_cons, List.flatMap_nil, List.append_nil]
theorem wInts_len {l : List Int} (h : ∀ x ∈ l, I64 x) (hl : l.length ≤ 1000000000) : (wInts l).length ≤ 10 + 10 * l.length := by
  have h1 := wIntsL_len h
  have h2 : (uv l.length).length ≤ 10 := uv_len64 (by omega)
  unfold wInts
  rw [List.length_append]
  omega
theorem IsIt.enc_len {w : World} {G : Nat → Prop} {cs : Array Value} {x : It} (h : IsIt w G cs x) (hs : x.small) : x.enc.length ≤ 60000 := by
  obtain ⟨A, c, _, _, _, hn, hu, hl, _⟩ := h
  unfold It.enc
  split
  · have := wInt_len hn; omega
  · split
    · have := uv_len64 hu; omega
    · split
      · have h2 : (uv x.s.data.toList.length).length ≤ 10 := uv_len64 (by have := hs.1; show x.s.size < _; omega)
        have h3 : x.s.data.toList.length = x.s.size := rfl
        unfold wText
        rw [List.length_append]
        have := hs.1
        omega
      · have := wInts_len hl (by have := hs.2; omega)
        have := hs.2
        omega
theorem encs_len {w : World} {G : Nat → Prop} {A : Option Addr} {xs : List It} (h : ItSl w G A xs) (hs : ∀ x ∈ xs, x.small) (k : Nat) (hk : k ≤ xs.length) : (encs (xs.take k)).length ≤ 60000 * k := by
  induction k with
  | zero => simp [encs]
  | succ k ih =>
    have hl : k < xs.length := by omega
    obtain ⟨b, off, cs, _, _, _, hi, _⟩ := h k _ (List.getElem?_eq_getElem hl)
    have h1 := hi.enc_len (hs _ (List.getElem_mem hl))
    have h2 := ih (by omega)
    rw [encs_snoc xs k hl, List.length_append]
    omega
theorem fewIt_dec (l : List It) : fewIt l ∨ ¬ fewIt l := Classical.em _

set_option maxRecDepth 100000 in
set_option maxHeartbeats 2000000 in
theorem few_yes (xs : List It) (G : Nat → Prop) (A : Option Addr) (n c : Nat) (w : World) (hn : xs.length = n) (h : ItSl w G A xs) (hf : fewIt xs) :
    Calls Try.prog 11 #[.slice A n c] w fun e w' => e = .returned (.bool true) ∧ w = w' := by
  have h200 : n ≤ 200 := by have := hf.1; omega
  have HF := Lib.hid hf.2
  have LN := Lib.hid hn
  have H := Lib.hid h
  clear hf h hn
  go_enter Try.func11, Try.ntmps11
  go_wp2_with fail
  go_loop [9] (fun i => ∃ k : Nat, k ≤ n ∧ i = .int .i64 k) (fun i => n - (intOf i).toNat)
  case atStart => exact ⟨0, by omega, rfl⟩
  case round =>
    obtain ⟨k, hk, rfl⟩ := hrel
    by_cases hlt : k < n
    · have kl : k < xs.length := by have := LN.out; omega
      obtain ⟨b, off, cs, rfl, _, _, ⟨A2, c2, rfl, _⟩, hc⟩ := H.out k _ (List.getElem?_eq_getElem kl)
      have q3 := hc 3 _ rfl
      have q4 := hc 4 _ rfl
      have hsm := HF.out _ (List.getElem_mem kl)
      have h1 : (xs[k].s.size : Int) ≤ 5000 := by have := hsm.1; omega
      have h2 : (xs[k].l.length : Int) ≤ 5000 := by have := hsm.2; omega
      have hlti : (k : Int) < (n : Int) := by omega
      have h0i : (0 : Int) ≤ (k : Int) := by omega
      clear hc hsm
      generalize xs[k] = x at *
      go_wp2_with fail
      go_round
      case rel => exact ⟨k + 1, by omega, by go_num⟩
      case measure => simp [intOf]; omega
    · obtain rfl : k = n := by omega
      go_wp2_with fail
      go_ret
      exact ⟨rfl, rfl⟩

set_option maxRecDepth 100000 in
set_option maxHeartbeats 2000000 in
theorem few_no (xs : List It) (G : Nat → Prop) (A : Option Addr) (n c : Nat) (w : World) (hn : xs.length = n) (hn2 : n ≤ 9223372036854775807) (h : ItSl w G A xs) (hf : ¬ fewIt xs) :
    Calls Try.prog 11 #[.slice A n c] w fun e w' => e = .returned (.bool false) ∧ w = w' := by
  have LN := Lib.hid hn
  have H := Lib.hid h
  have HF := Lib.hid hf
  by_cases h200 : n ≤ 200
  · clear hf h hn
    go_enter Try.func11, Try.ntmps11
    go_wp2_with fail
    go_loop [9] (fun i => ∃ k : Nat, k ≤ n ∧ i = .int .i64 k ∧ Hid (∀ x ∈ xs.take k, x.small)) (fun i => n - (intOf i).toNat)
    case atStart => exact ⟨0, by omega, rfl, fun x hx => by simp at hx⟩
    case round =>
      obtain ⟨k, hk, rfl, HP⟩ := hrel
      by_cases hlt : k < n
      · have kl : k < xs.length := by have := LN.out; omega
        obtain ⟨b, off, cs, rfl, _, _, ⟨A2, c2, rfl, _, _, _, _, _, m1, m2⟩, hc⟩ := H.out k _ (List.getElem?_eq_getElem kl)
        have q3 := hc 3 _ rfl
        have q4 := hc 4 _ rfl
        have hlti : (k : Int) < (n : Int) := by omega
        have h0i : (0 : Int) ≤ (k : Int) := by omega
        have HT : Hid (xs[k].small → ∀ x ∈ xs.take (k + 1), x.small) := fun hs x hx => by
          rw [List.take_succ_eq_append_getElem kl, List.mem_append] at hx
          rcases hx with hx | hx
          · exact HP.out x hx
          · rw [List.mem_singleton] at hx
            rw [hx]
            exact hs
        clear hc
        generalize xs[k] = x at *
        by_cases h1 : x.s.size ≤ 5000
        · have h1i : (x.s.size : Int) ≤ 5000 := by omega
          by_cases h2 : x.l.length ≤ 5000
          · have h2i : (x.l.length : Int) ≤ 5000 := by omega
            have HQ := Lib.hid (HT.out ⟨h1, h2⟩)
            go_wp2_with fail
            go_round
            case rel => exact ⟨k + 1, by omega, by go_num, HQ⟩
            case measure => simp [intOf]; omega
          · have h2i : (5000 : Int) < (x.l.length : Int) := by omega
            go_wp2_with fail
            go_ret
            exact ⟨rfl, rfl⟩
        · have h1i : (5000 : Int) < (x.s.size : Int) := by omega
          go_wp2_with fail
          go_ret
          exact ⟨rfl, rfl⟩
      · obtain rfl : k = n := by omega
        exfalso
        refine HF.out ⟨by have := LN.out; omega, ?_⟩
        have := HP.out
        rw [List.take_of_length_le (by have := LN.out; omega)] at this
        exact this
  · have h201 : (200 : Int) < (n : Int) := by omega
    clear hf h hn h200
    go_enter Try.func11, Try.ntmps11
    go_wp2_with fail
    go_ret
    exact ⟨rfl, rfl⟩

theorem enc1 {x : It} (h : x.kind = 1) : x.enc = wInt x.n := by unfold It.enc; rw [if_pos h]
theorem enc2 {x : It} (h : x.kind = 2) : x.enc = uv x.u := by unfold It.enc; rw [if_neg (by omega), if_pos h]
theorem enc3 {x : It} (h : x.kind = 3) : x.enc = wText x.s.data.toList := by unfold It.enc; rw [if_neg (by omega), if_neg (by omega), if_pos h]
theorem enc4 {x : It} (h1 : x.kind ≠ 1) (h2 : x.kind ≠ 2) (h3 : x.kind ≠ 3) : x.enc = wInts x.l := by unfold It.enc; rw [if_neg h1, if_neg h2, if_neg h3]

set_option maxRecDepth 100000 in
set_option maxHeartbeats 4000000 in
theorem write_any (p : Nat) (v : Value) (bs : List UInt8) (xs : List It) (G : Nat → Prop) (A : Option Addr) (n c : Nat) (w : World) (hw : Wr 66 w p v bs) (hn : xs.length = n) (hn2 : n ≤ 1000) (h : ItSl w G A xs) (hs : ∀ x ∈ xs, x.small)
    (hG : ∀ k, G k → k < w.heap.size ∧ ¬ own p v k) (hl : Fit (bs.length + 60000 * n)) :
    Calls Try.prog 15 #[.pointer (some ⟨p, 0, none⟩), .slice A n c] w (WrPost 66 p v (bs ++ encs xs) w) := by
  have LN := Lib.hid hn
  have H := Lib.hid h
  have HW := Lib.hid hw
  have HS := Lib.hid hs
  have HG := Lib.hid hG
  clear hn h hw hs hG
  go_enter Try.func15, Try.ntmps15
  go_wp2_with fail
  go_loopw [7] (fun i wr => ∃ (k : Nat) (u : Value), k ≤ n ∧ i = .int .i64 k ∧ Hid (Wr 66 wr p u (bs ++ encs (xs.take k)) ∧ WrTo p v u w wr)) (fun i _ => n - (intOf i).toNat)
  case atStart => exact ⟨0, v, by omega, rfl, ⟨by simpa [encs] using HW.out, WrTo.refl _ _ _⟩⟩
  case round =>
    obtain ⟨k, u, hk, rfl, HR⟩ := hrel
    by_cases hlt : k < n
    · have kl : k < xs.length := by have := LN.out; omega
      have H2 := H.out.frm HR.out.2.1 fun j hj => (HG.out j hj).2
      have HLen : Hid (Fit ((bs ++ encs (xs.take k)).length + 60000)) := by
        refine hl.of ?_
        have := encs_len H.out HS.out k (by omega)
        rw [List.length_append]
        omega
      obtain ⟨b, off, cs, rfl, _, _, ⟨A2, c2, rfl, hsl, hg2, x1, x2, x3, _⟩, hc⟩ := H2 k _ (List.getElem?_eq_getElem kl)
      have q0 : wr.cell? ⟨b, off + k * 5, none⟩ = some (.int .i64 xs[k].kind) := hc 0 _ rfl
      have q1 := hc 1 _ rfl
      have q2 := hc 2 _ rfl
      have q3 := hc 3 _ rfl
      have q4 := hc 4 _ rfl
      have HSm := Lib.hid (HS.out _ (List.getElem_mem kl))
      have HE := Lib.hid (encs_snoc xs k kl)
      have hlti : (k : Int) < (n : Int) := by omega
      have h0i : (0 : Int) ≤ (k : Int) := by omega
      have X1 := Lib.hid x1
      have X2 := Lib.hid x2
      have X3 := Lib.hid x3
      have XS := Lib.hid hsl
      have XG : Hid (0 < xs[k].l.length → ∀ a, A2 = some a → ¬ own p u a.block) := fun h0 a ha hk => by
        rcases hk with hk | hk
        · exact (HG.out _ (hg2 h0 a ha)).2 (.inl hk)
        · rcases HR.out.2.2 _ hk with hk | hk
          · exact (HG.out _ (hg2 h0 a ha)).2 (.inr hk)
          · have := (HG.out _ (hg2 h0 a ha)).1
            omega
      have done : Hid (∀ e w1, WrPost 66 p u ((bs ++ encs (xs.take k)) ++ xs[k].enc) wr e w1 → e = .returned (.tuple #[]) ∧ ∃ v1, Wr 66 w1 p v1 (bs ++ encs (xs.take (k + 1))) ∧ WrTo p v v1 w w1) := fun e w1 ⟨he, v1, h1, h2⟩ =>
        ⟨he, v1, by rw [HE.out, ← List.append_assoc]; exact h1, HR.out.2.trans h2⟩
      clear hc H2 hsl hg2 x1 x2 x3
      generalize xs[k] = x at *
      by_cases k1 : x.kind = 1
      · have t1 : (x.kind == 1) = true := by simp [k1]
        rw [enc1 k1] at done
        clear k1
        go_wp2_with fail
        refine (wint_any p u _ x.n _ HR.out.1 X1.out (HLen.out.of (by omega))).mono ?_
        intro e w1 hp
        obtain ⟨rfl, v1, h1, h2⟩ := done.out e w1 hp
        have J1 := Lib.hid (And.intro h1 h2)
        clear hp h1 h2 done
        go_wp2_with fail
        go_roundw
        case rel => exact ⟨k + 1, v1, by omega, by go_num, J1⟩
        case measure => simp [intOf]; omega
      · have t1 : (x.kind == 1) = false := by simpa using k1
        by_cases k2 : x.kind = 2
        · have t2 : (x.kind == 2) = true := by simp [k2]
          rw [enc2 k2] at done
          clear k1 k2
          go_wp2_with fail
          refine (uint_any p u _ x.u _ HR.out.1 X2.out (HLen.out.of (by omega))).mono ?_
          intro e w1 hp
          obtain ⟨rfl, v1, h1, h2⟩ := done.out e w1 hp
          have J1 := Lib.hid (And.intro h1 h2)
          clear hp h1 h2 done
          go_wp2_with fail
          go_roundw
          case rel => exact ⟨k + 1, v1, by omega, by go_num, J1⟩
          case measure => simp [intOf]; omega
        · have t2 : (x.kind == 2) = false := by simpa using k2
          by_cases k3 : x.kind = 3
          · have t3 : (x.kind == 3) = true := by simp [k3]
            rw [enc3 k3] at done
            clear k1 k2 k3
            go_wp2_with fail
            refine (wtext_any p u _ x.s _ HR.out.1 (by have := HSm.out.1; omega) (HLen.out.of (by have := HSm.out.1; omega))).mono ?_
            intro e w1 hp
            obtain ⟨rfl, v1, h1, h2⟩ := done.out e w1 hp
            have J1 := Lib.hid (And.intro h1 h2)
            clear hp h1 h2 done
            go_wp2_with fail
            go_roundw
            case rel => exact ⟨k + 1, v1, by omega, by go_num, J1⟩
            case measure => simp [intOf]; omega
          · have t3 : (x.kind == 3) = false := by simpa using k3
            rw [enc4 k1 k2 k3] at done
            clear k1 k2 k3
            go_wp2_with fail
            refine (wints_any p u _ x.l A2 _ c2 _ HR.out.1 XS.out XG.out X3.out (by have := HSm.out.2; omega) (HLen.out.of (by have := HSm.out.2; omega))).mono ?_
            intro e w1 hp
            obtain ⟨rfl, v1, h1, h2⟩ := done.out e w1 hp
            have J1 := Lib.hid (And.intro h1 h2)
            clear hp h1 h2 done
            go_wp2_with fail
            go_roundw
            case rel => exact ⟨k + 1, v1, by omega, by go_num, J1⟩
            case measure => simp [intOf]; omega
    · obtain rfl : k = n := by omega
      have HT : Hid (xs.take k = xs) := List.take_of_length_le (by have := LN.out; omega)
      go_wp2_with fail
      go_end0
      have := HR.out
      rw [HT.out] at this
      exact ⟨rfl, u, this.1, this.2⟩
end Go.Proofs.Yteikdmkplbbckaa.Wr
