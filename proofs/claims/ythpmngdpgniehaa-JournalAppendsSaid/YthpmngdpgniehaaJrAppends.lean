/-
  The reference's journal and the walk of JournalAppends: it returns true, and changes nothing that was there. Conditions: the records lie in memory.
-/
import Derived.Test.YthpmngdpgniehaaJrSt
import Derived.Test.YthpmngdpgniehaaFrR
import Derived.Deep.DeepCutAuto
namespace Go.Proofs.Ythpmngdpgniehaa.Jr
open Go.RowKit Go.Proofs.Ythpmngdpgniehaa.Mem Go.Proofs.Ythpmngdpgniehaa.Wr Go.Proofs.Ythpmngdpgniehaa.Opn
attribute [local go_sem ↓] exec_load_rec exec_store_rec


/-- what append onto an empty row of its own leaves. -/
theorem app_new {W w1 : World} {o : Obj} {v1 : Value} {m g : Nat} {xs : List Value} {t : TypeId} (hown : w1.ownsRow 0 t 1 v1 (0 + m) ([] ++ xs)) (hg : (W.alloc o).grownBy w1 (some g)) (hat : v1.ownBlock = some g ∨ v1.ownBlock = some (W.alloc o).heap.size) (e : g = W.heap.size) :
    ∃ B d, v1 = .slice B m d ∧ Sl w1 1 B m xs ∧ (∀ a, B = some a → W.heap.size ≤ a.block) ∧ Below W.heap.size W w1 := by
  rw [Nat.zero_add, List.nil_append] at hown
  obtain ⟨B, d, rfl, hs⟩ := own_form hown
  refine ⟨B, d, rfl, hs, fun a ha => ?_, ?_⟩
  · subst ha
    rcases hown.2 with ⟨e1, _⟩ | ⟨g1, cap, cur, e1, _⟩
    · injection e1 with e1 _ _
      cases e1
    · injection e1 with e1 _ _
      injection e1 with e1
      subst e1
      show W.heap.size ≤ g1
      rcases hat with h | h
      · have h2 : g1 = g := by simpa [Value.ownBlock] using h
        omega
      · have h2 : g1 = (W.alloc o).heap.size := by simpa [Value.ownBlock] using h
        simp at h2
        omega
  · exact ((Frm.refl (fun i => W.heap.size ≤ i) W).alloc o |>.trans (Frm.of_grown (F := fun i => W.heap.size ≤ i) hg fun i hi => by injection hi with hi; omega) (fun _ _ h => h)).below (Nat.le_refl _) fun i hi f => by omega
theorem int_info8 : (Try.prog.info? 3).map (fun i => (i.zero, i.size, i.bytes)) = some (some (.int .i64 0), 1, 8) := by kernel_rfl
set_option maxRecDepth 100000 in
set_option maxHeartbeats 4000000 in
theorem copiedR_any (r : Rec) (cs : Array Value) (w : World) (hr : IsRec w cs r) (h7l : r.nums.length ≤ 5000) (h11l : r.amts.length ≤ 5000) :
    Calls Try.prog 75 #[.agg cs] w (RetRec r w) := by
  obtain ⟨i0, hi0, hz0, hz1, hz2⟩ := info_parts int_info8
  obtain ⟨A7, c7, A11, c11, rfl, h7, h11, m7, m11⟩ := hr
  unfold recCells
  obtain ⟨W, hW⟩ : ∃ W, W = (w.alloc (.cells #[.int .i64 r.k0, .int .i64 r.k1, .int .i64 r.k2, .int .i64 r.k3, .int .i64 r.k4, .string r.name, .string r.text, .slice A7 r.nums.length c7, .int .u64 r.key, .int .u64 r.nonce, .string r.ticket, .slice A11 r.amts.length c11] 27)).alloc (.cells #[.int .i64 0, .int .i64 0, .int .i64 0, .int .i64 0, .int .i64 0, .string ⟨#[]⟩, .string ⟨#[]⟩, .slice none 0 0, .int .u64 0, .int .u64 0, .string ⟨#[]⟩, .slice none 0 0] 27) := ⟨_, rfl⟩
  have KB : Hid (Blk W w.heap.size 27 #[.int .i64 r.k0, .int .i64 r.k1, .int .i64 r.k2, .int .i64 r.k3, .int .i64 r.k4, .string r.name, .string r.text, .slice A7 r.nums.length c7, .int .u64 r.key, .int .u64 r.nonce, .string r.ticket, .slice A11 r.amts.length c11]) := by rw [hW]; exact heap_alloc2_old _ _ _
  have KR : Hid (Blk W (w.heap.size + 1) 27 #[.int .i64 0, .int .i64 0, .int .i64 0, .int .i64 0, .int .i64 0, .string ⟨#[]⟩, .string ⟨#[]⟩, .slice none 0 0, .int .u64 0, .int .u64 0, .string ⟨#[]⟩, .slice none 0 0]) := by rw [hW]; exact heap_alloc2_new _ _ _
  have B0 : Hid (Below w.heap.size w W) := by rw [hW]; exact ((Below.refl _ _).alloc (Nat.le_refl _) _).alloc (by simp) _
  have ZW : Hid (w.heap.size + 1 < W.heap.size) := Lib.hid KR.out.lt
  have ZE : Hid (W.heap.size = w.heap.size + 1 + 1) := Lib.hid (by rw [hW]; simp)
  have S7 : Hid (Sl W 1 A7 r.nums.length (ints r.nums)) := Lib.hid (h7.below B0.out (Nat.le_refl _))
  have S11 : Hid (Sl W 1 A11 r.amts.length (ints r.amts)) := Lib.hid (h11.below B0.out (Nat.le_refl _))
  have O11 : Hid (0 < r.amts.length → ∀ a, A11 = some a → a.block < w.heap.size) := Lib.hid (sl_old h11)
  have M7 := Lib.hid m7
  have M11 := Lib.hid m11
  have HW := Lib.hid hW
  have HO : Hid (∀ (W : World) (cs : Array Value), cs.size = 0 → (W.alloc (.cells cs 3)).ownsRow 0 3 1 (.slice (some ⟨W.heap.size, 0, none⟩) 0 0) 0 []) := fun W cs h => World.ownsRow_made W cs 0 (Nat.zero_le _) (Nat.zero_le _) h
  have q7 : ((w.alloc (.cells #[.int .i64 r.k0, .int .i64 r.k1, .int .i64 r.k2, .int .i64 r.k3, .int .i64 r.k4, .string r.name, .string r.text, .slice A7 r.nums.length c7, .int .u64 r.key, .int .u64 r.nonce, .string r.ticket, .slice A11 r.amts.length c11] 27)).alloc (.cells #[.int .i64 0, .int .i64 0, .int .i64 0, .int .i64 0, .int .i64 0, .string ⟨#[]⟩, .string ⟨#[]⟩, .slice none 0 0, .int .u64 0, .int .u64 0, .string ⟨#[]⟩, .slice none 0 0] 27) |>.alloc (.cells #[] 3)).cell? ⟨w.heap.size, 7, none⟩ = some (.slice A7 r.nums.length c7) := by rw [← hW]; exact (KB.out.alloc _).cell 7
  clear hW h7 h11 m7 m11
  go_enter Try.func75, Try.ntmps75
  go_wp2_with (first
    | (at_builtin; rw [← HW.out]; refine wpList_append_sl _ rfl (.tmp 3) (.tmp 6) 22 rfl 3 i0 (.int .i64 0) 1 8 Try.underlying22 hi0 hz0 hz1 hz2 rfl (by decide) (.slice (some ⟨w.heap.size + 1 + 1, 0, none⟩) 0 0) 0 [] rfl (by rw [← ZE.out]; exact HO.out W _ rfl) A7 r.nums.length c7 (ints r.nums) rfl (S7.out.alloc _) (ints_one _) (by unfold maxLen; omega) (by omega) ?_; intro v1 w1 hown1 hg1 hat1; obtain ⟨B7, d7, rfl, s7, n7, b1⟩ := app_new hown1 hg1 hat1 ZE.out.symm; have kb := KB.out.below b1 KB.out.lt; have q7 : w1.cell? ⟨w.heap.size, 7, none⟩ = some (.slice A7 r.nums.length c7) := kb.cell 7; have z7 : w1.frozen? ⟨w.heap.size, 7, none⟩ = false := kb.frozen 7; have hfs : Frm (· = w.heap.size) w1 (w1.setCell ⟨w.heap.size, 7, none⟩ (.slice B7 r.nums.length d7)) := (Frm.refl (· = w.heap.size) w1).setCell (fun _ => rfl) _; have KB2 : Hid (Blk (w1.setCell ⟨w.heap.size, 7, none⟩ (.slice B7 r.nums.length d7)) w.heap.size 27 #[.int .i64 r.k0, .int .i64 r.k1, .int .i64 r.k2, .int .i64 r.k3, .int .i64 r.k4, .string r.name, .string r.text, .slice B7 r.nums.length d7, .int .u64 r.key, .int .u64 r.nonce, .string r.ticket, .slice A11 r.amts.length c11]) := Lib.hid (kb.put 7 _); have KR2 := Lib.hid ((KR.out.below b1 KR.out.lt).frm hfs (fun e => by omega)); have N7 : Hid (∀ a, B7 = some a → w.heap.size + 1 < a.block) := Lib.hid (fun a ha => Nat.lt_of_lt_of_le ZW.out (n7 a ha)); have T7 := Lib.hid (s7.frm hfs (fun a ha e => by have := N7.out a ha; omega)); have S12 : Hid (Sl (w1.setCell ⟨w.heap.size, 7, none⟩ (.slice B7 r.nums.length d7)) 1 A11 r.amts.length (ints r.amts)) := Lib.hid (sl_frm (S11.out.below b1 (Nat.le_refl _)) hfs (fun h0 a ha e => by have := O11.out h0 a ha; omega)); have B2 := Lib.hid (B0.out.trans ((b1.mono B0.out.size).trans (hfs.below (Nat.le_trans B0.out.size b1.size) (fun i hi e => by omega)))); have Z2 : Hid (w.heap.size + 1 < (w1.setCell ⟨w.heap.size, 7, none⟩ (.slice B7 r.nums.length d7)).heap.size) := Lib.hid KR2.out.lt; have ZE2 : Hid ((w1.setCell ⟨w.heap.size, 7, none⟩ (.slice B7 r.nums.length d7)).heap.size = w1.heap.size) := Lib.hid (by simp [World.setCell]); have p11 : ((w1.setCell ⟨w.heap.size, 7, none⟩ (.slice B7 r.nums.length d7)).alloc (.cells #[] 3)).cell? ⟨w.heap.size, 11, none⟩ = some (.slice A11 r.amts.length c11) := (KB2.out.alloc _).cell 11; clear kb hfs s7 n7 b1 S11 S7 KB KR B0 ZW ZE HW)
    | (at_builtin; refine wpList_append_sl _ rfl (.tmp 10) (.tmp 12) 22 rfl 3 i0 (.int .i64 0) 1 8 Try.underlying22 hi0 hz0 hz1 hz2 rfl (by decide) (.slice (some ⟨w1.heap.size, 0, none⟩) 0 0) 0 [] rfl (by rw [← ZE2.out]; exact HO.out _ _ rfl) A11 r.amts.length c11 (ints r.amts) rfl (S12.out.alloc _) (ints_one _) (by unfold maxLen; omega) (by omega) ?_; intro v3 w3 hown3 hg3 hat3; obtain ⟨B11, d11, rfl, s11, n11, b3⟩ := app_new hown3 hg3 hat3 ZE2.out.symm; have kb := KB2.out.below b3 KB2.out.lt; have q11 : w3.cell? ⟨w.heap.size, 11, none⟩ = some (.slice A11 r.amts.length c11) := kb.cell 11; have z11 : w3.frozen? ⟨w.heap.size, 11, none⟩ = false := kb.frozen 11; have hfs : Frm (· = w.heap.size) w3 (w3.setCell ⟨w.heap.size, 11, none⟩ (.slice B11 r.amts.length d11)) := (Frm.refl (· = w.heap.size) w3).setCell (fun _ => rfl) _; have KB4 : Hid (Blk (w3.setCell ⟨w.heap.size, 11, none⟩ (.slice B11 r.amts.length d11)) w.heap.size 27 #[.int .i64 r.k0, .int .i64 r.k1, .int .i64 r.k2, .int .i64 r.k3, .int .i64 r.k4, .string r.name, .string r.text, .slice B7 r.nums.length d7, .int .u64 r.key, .int .u64 r.nonce, .string r.ticket, .slice B11 r.amts.length d11]) := Lib.hid (kb.put 11 _); have KR4 := Lib.hid ((KR2.out.below b3 KR2.out.lt).frm hfs (fun e => by omega)); have N11 : Hid (∀ a, B11 = some a → w.heap.size + 1 < a.block) := Lib.hid (fun a ha => Nat.lt_of_lt_of_le Z2.out (n11 a ha)); have T11 := Lib.hid (s11.frm hfs (fun a ha e => by have := N11.out a ha; omega)); have T7b := Lib.hid ((T7.out.below b3 (Nat.le_refl _)).frm hfs (fun a ha e => by have := N7.out a ha; omega)); have B4 := Lib.hid (B2.out.trans ((b3.mono B2.out.size).trans (hfs.below (Nat.le_trans B2.out.size b3.size) (fun i hi e => by omega)))); have st := store_rec (cs := #[.int .i64 r.k0, .int .i64 r.k1, .int .i64 r.k2, .int .i64 r.k3, .int .i64 r.k4, .string r.name, .string r.text, .slice B7 r.nums.length d7, .int .u64 r.key, .int .u64 r.nonce, .string r.ticket, .slice B11 r.amts.length d11]) KR4.out rfl rfl rfl; have ld := load_blk KB4.out rfl; have IR : Hid (IsRec ((w3.setCell ⟨w.heap.size, 11, none⟩ (.slice B11 r.amts.length d11)).setRow (w.heap.size + 1) #[.int .i64 r.k0, .int .i64 r.k1, .int .i64 r.k2, .int .i64 r.k3, .int .i64 r.k4, .string r.name, .string r.text, .slice B7 r.nums.length d7, .int .u64 r.key, .int .u64 r.nonce, .string r.ticket, .slice B11 r.amts.length d11]) #[.int .i64 r.k0, .int .i64 r.k1, .int .i64 r.k2, .int .i64 r.k3, .int .i64 r.k4, .string r.name, .string r.text, .slice B7 r.nums.length d7, .int .u64 r.key, .int .u64 r.nonce, .string r.ticket, .slice B11 r.amts.length d11] r) := Lib.hid ⟨B7, d7, B11, d11, rfl, T7b.out.frm (frm_setRow _ _ _) (fun a ha e => by have := N7.out a ha; omega), T11.out.frm (frm_setRow _ _ _) (fun a ha e => by have := N11.out a ha; omega), M7.out, M11.out⟩; have LS : Hid (Lst (fun i => w.heap.size ≤ i) #[.int .i64 r.k0, .int .i64 r.k1, .int .i64 r.k2, .int .i64 r.k3, .int .i64 r.k4, .string r.name, .string r.text, .slice B7 r.nums.length d7, .int .u64 r.key, .int .u64 r.nonce, .string r.ticket, .slice B11 r.amts.length d11]) := Lib.hid (lst_two (fun a ha => by have := N7.out a ha; omega) (fun a ha => by have := N11.out a ha; omega)); have BL := Lib.hid (Blk_setRow KR4.out #[.int .i64 r.k0, .int .i64 r.k1, .int .i64 r.k2, .int .i64 r.k3, .int .i64 r.k4, .string r.name, .string r.text, .slice B7 r.nums.length d7, .int .u64 r.key, .int .u64 r.nonce, .string r.ticket, .slice B11 r.amts.length d11]); have BZ : Hid (∀ cs, Below w.heap.size w ((w3.setCell ⟨w.heap.size, 11, none⟩ (.slice B11 r.amts.length d11)).setRow (w.heap.size + 1) cs)) := Lib.hid (fun cs => B4.out.trans ((frm_setRow _ _ cs).below B4.out.size (fun i hi e => by omega))); clear kb hfs s11 n11 b3 S12 KB2 KR2 B2 Z2 T7 T11 T7b N7 N11 B4 KB4 KR4 O11 M7 M11 ZE2))
  exact ret_rec Try.results75 rfl rfl BL.out rfl ⟨_, rfl, IR.out, BZ.out _, LS.out⟩

theorem Row.other {F O O' : Nat → Prop} {w : World} {v : Value} {rs : List Rec} (h : Row F O w v rs) (k : ∀ i, F i → O' i → O i) : Row F O' w v rs := by
  obtain ⟨xs, L, h1, h2, h3, h4⟩ := h
  exact ⟨xs, L, h1, h2, fun i hi => ⟨(h3 i hi).1, fun o => (h3 i hi).2 (k i (h3 i hi).1 o)⟩, fun i hi => ⟨(h4 i hi).1, fun o => (h4 i hi).2.1 (k i (h4 i hi).1 o), (h4 i hi).2.2⟩⟩
/-- block g is the reference's journal of these records, with this hash and these bytes; all its blocks are in F. -/
def Rj (F : Nat → Prop) (w : World) (g : Nat) (v vb : Value) (rs : List Rec) (h : Int) (bs : List UInt8) : Prop :=
  Blk w g 87 #[v, .int .u64 h, vb] ∧ F g ∧ (∀ i, F i → i < w.heap.size) ∧ Row F (fun i => i = g ∨ vb.ownBlock = some i) w v rs ∧ w.ownsRow 0 5 1 vb bs.length (byts bs) ∧ ∀ k, vb.ownBlock = some k → F k
section
variable {F G : Nat → Prop} {w w' : World} {g : Nat} {v vb : Value} {rs : List Rec} {h : Int} {bs : List UInt8}
theorem Rj.frm (hj : Rj F w g v vb rs h bs) (hf : Frm G w w') (hd : ∀ i, F i → ¬ G i) : Rj F w' g v vb rs h bs :=
  ⟨hj.1.frm hf (hd g hj.2.1), hj.2.1, fun i hi => Nat.lt_of_lt_of_le (hj.2.2.1 i hi) hf.size, hj.2.2.2.1.frm hf (fun i hi _ => hd i hi), own_frm hj.2.2.2.2.1 hf (fun k hk => hd k (hj.2.2.2.2.2 k hk)), hj.2.2.2.2.2⟩
theorem Rj.below (hj : Rj F w g v vb rs h bs) (hb : Below w.heap.size w w') : Rj F w' g v vb rs h bs := hj.frm (frm_none hb) (fun _ _ f => f)
theorem rj_new (hb : Blk w g 87 #[.slice none 0 0, .int .u64 0, .slice none 0 0]) : Rj (· = g) w g (.slice none 0 0) (.slice none 0 0) [] ((0 : Nat) : Int) [] :=
  ⟨hb, rfl, fun i hi => by rw [hi]; exact hb.lt, Row.none _ _ _, World.ownsRow_nil _ _ _ _, fun k hk => by cases hk⟩
theorem rj_hash {h2 : Int} (hj : Rj F w g v vb rs h bs) : Rj F (w.setCell ⟨g, 1, none⟩ (.int .u64 h2)) g v vb rs h2 bs ∧ Frm (· = g) w (w.setCell ⟨g, 1, none⟩ (.int .u64 h2)) := by
  obtain ⟨hb, hFg, hF, hrow, hown, hFb⟩ := hj
  have hS : Frm (· = g) w (w.setCell ⟨g, 1, none⟩ (.int .u64 h2)) := (Frm.refl (· = g) w).setCell (fun _ => rfl) _
  exact ⟨⟨hb.put 1 _, hFg, fun i hi => Nat.lt_of_lt_of_le (hF i hi) hS.size, hrow.frm hS (fun i _ hn e => hn (.inl e)), own_frm hown hS (fun k hk e => own_apart hown hb (by decide) (by rw [hk, e])), hFb⟩, hS⟩
theorem rj_bytes {w2 : World} {vb2 : Value} {bs2 : List UInt8} (hj : Rj F w g v vb rs h bs) (hf : Frm G w w2) (hG : ∀ i, F i → G i → vb.ownBlock = some i) (o2 : w2.ownsRow 0 5 1 vb2 bs2.length (byts bs2)) (hat : ∀ k, vb2.ownBlock = some k → vb.ownBlock = some k ∨ w.heap.size ≤ k) :
    Rj (fun i => F i ∨ (w.heap.size ≤ i ∧ i < w2.heap.size)) (w2.setCell ⟨g, 2, none⟩ vb2) g v vb2 rs h bs2 ∧ Frm (fun i => G i ∨ i = g) w (w2.setCell ⟨g, 2, none⟩ vb2) := by
  obtain ⟨hb, hFg, hF, hrow, hown, hFb⟩ := hj
  have hS : Frm (· = g) w2 (w2.setCell ⟨g, 2, none⟩ vb2) := (Frm.refl (· = g) w2).setCell (fun _ => rfl) _
  have hb2 : Blk w2 g 87 #[v, .int .u64 h, vb] := hb.frm hf fun e => own_apart hown hb (by decide) (hG g hFg e)
  have hs := hf.size
  refine ⟨⟨hb2.put 2 vb2, .inl hFg, fun i hi => ?_, ?_, own_frm o2 hS (fun k hk e => own_apart o2 hb2 (by decide) (by rw [hk, e])), fun k hk => ?_⟩, (hf.weaken (G := fun i => G i ∨ i = g) fun i _ hi => .inl hi).trans (hS.weaken (G := fun i => G i ∨ i = g) fun i _ e => .inr e) (fun _ _ h => h)⟩
  · refine Nat.lt_of_lt_of_le ?_ hS.size
    rcases hi with hi | hi
    · exact Nat.lt_of_lt_of_le (hF i hi) hs
    · exact hi.2
  · have r2 : Row F (fun i => i = g ∨ vb.ownBlock = some i) w2 v rs := hrow.frm hf fun i hi hn e => hn (.inr (hG i hi e))
    have r3 := (r2.frm hS fun i _ hn e => hn (.inl e)).other (O' := fun i => i = g ∨ vb2.ownBlock = some i) fun i hi ho => by
      rcases ho with e | e
      · exact .inl e
      · rcases hat i e with e2 | e2
        · exact .inr e2
        · have := hF i hi
          omega
    exact r3.mono fun i hi => .inl hi
  · rcases hat k hk with e | e
    · exact .inl (hFb k e)
    · exact .inr ⟨e, (o2.lt k hk).2⟩
theorem rj_store {W1 w2 : World} {v2 : Value} {cs : Array Value} {r : Rec} {xs : List Value} {L : Nat → Prop} (hj : Rj F w g v vb rs h bs) (hx : RowX F (fun i => i = g ∨ vb.ownBlock = some i) w v rs xs L) (h01 : Frm (fun _ => False) w W1) (hr : IsRec W1 cs r) (hc : cs.size = 12) (hl : Lst (fun i => w.heap.size ≤ i) cs)
    (hg : W1.grownBy w2 v.ownBlock) (hat : v2.ownBlock = v.ownBlock ∨ v2.ownBlock = some W1.heap.size) (o2 : w2.ownsRow 0 27 12 v2 (rs.length + 1) (xs ++ cs.toList)) :
    ∃ F', Rj F' (w2.setCell ⟨g, 0, none⟩ v2) g v2 vb (rs ++ [r]) h bs ∧ Frm F w (w2.setCell ⟨g, 0, none⟩ v2) ∧ ∀ i, F' i → F i ∨ w.heap.size ≤ i := by
  obtain ⟨hb, hFg, hF, hrow, hown, hFb⟩ := hj
  have hO : ∀ i, (i = g ∨ vb.ownBlock = some i) → i < w.heap.size := fun i e => by
    rcases e with e | e
    · rw [e]; exact hF g hFg
    · exact hF i (hFb i e)
  obtain ⟨hp, hf⟩ := row_push (O := fun i => i = g ∨ vb.ownBlock = some i) hx hO hF h01 hr hc hl hg hat o2
  have hFv := hx.2.2.1
  have hb2 : Blk w2 g 87 #[v, .int .u64 h, vb] := hb.frm hf fun e => (hFv g e).2 (.inl rfl)
  have hS : Frm (· = g) w2 (w2.setCell ⟨g, 0, none⟩ v2) := (Frm.refl (· = g) w2).setCell (fun _ => rfl) _
  have o3 : w2.ownsRow 0 5 1 vb bs.length (byts bs) := own_frm hown hf fun k hk e => (hFv k e).2 (.inr hk)
  refine ⟨_, ⟨hb2.put 0 v2, .inl hFg, fun i hi => ?_, hp.frm hS (fun i _ hn e => hn (.inl e)), own_frm o3 hS (fun k hk e => own_apart o3 hb2 (by decide) (by rw [hk, e])), fun k hk => .inl (hFb k hk)⟩, ?_, fun i hi => ?_⟩
  · refine Nat.lt_of_lt_of_le ?_ hS.size
    rcases hi with hi | hi
    · exact Nat.lt_of_lt_of_le (hF i hi) hf.size
    · exact hi.2
  · exact (hf.weaken (G := F) fun i _ hi => (hFv i hi).1).trans (hS.weaken (G := F) fun i _ e => by rw [e]; exact hFg) (fun _ _ h => h)
  · exact hi.imp id fun h => h.1
end
/-- what a call has done with the reference's journal. -/
def RjPost (F : Nat → Prop) (g : Nat) (rs : List Rec) (h : Int) (bs : List UInt8) (x : Value) (w : World) (e : Ending) (w' : World) : Prop :=
  e = .returned x ∧ ∃ F' v' vb', Rj F' w' g v' vb' rs h bs ∧ Frm F w w' ∧ ∀ i, F' i → F i ∨ w.heap.size ≤ i
theorem rj_same {F : Nat → Prop} {w w' : World} {g : Nat} {v vb : Value} {rs : List Rec} {h : Int} {bs : List UInt8} {x : Value} (hj : Rj F w g v vb rs h bs) (hb : Below w.heap.size w w') : RjPost F g rs h bs x w (.returned x) w' :=
  ⟨rfl, F, v, vb, hj.below hb, Frm.of_below hb fun i hi hg => by omega, fun i hi => .inl hi⟩
set_option maxRecDepth 100000 in
theorem newJR_any (w : World) : Calls Try.prog 30 #[] w fun e w' => ∃ g, e = .returned (.pointer (some ⟨g, 0, none⟩)) ∧ w.heap.size ≤ g ∧ Blk w' g 87 #[.slice none 0 0, .int .u64 0, .slice none 0 0] ∧ Below w.heap.size w w' := by
  go_enter Try.func30, Try.ntmps30
  go_wp2_with fail
  go_ret
  exact ⟨w.heap.size, rfl, Nat.le_refl _, Blk.new _ _ _, (Below.refl _ _).alloc (Nat.le_refl _) _⟩
set_option maxRecDepth 100000 in
theorem lenR_any (F : Nat → Prop) (g : Nat) (v vb : Value) (rs : List Rec) (h : Int) (bs : List UInt8) (w : World) (hj : Rj F w g v vb rs h bs) :
    Calls Try.prog 32 #[.pointer (some ⟨g, 0, none⟩)] w fun e w' => e = .returned (.int .i64 (rs.length : Int)) ∧ w = w' := by
  obtain ⟨A, c, hv, _, _⟩ := hj.2.2.2.1.form
  subst hv
  have q0 : w.cell? ⟨g, 0, none⟩ = some (.slice A rs.length c) := hj.1.cell 0
  clear hj
  go_enter Try.func32, Try.ntmps32
  go_wp2_with fail
  go_ret
  exact ⟨rfl, rfl⟩
set_option maxRecDepth 100000 in
theorem hashR_any (F : Nat → Prop) (g : Nat) (v vb : Value) (rs : List Rec) (h : Int) (bs : List UInt8) (w : World) (hj : Rj F w g v vb rs h bs) :
    Calls Try.prog 33 #[.pointer (some ⟨g, 0, none⟩)] w fun e w' => e = .returned (.int .u64 h) ∧ w = w' := by
  have q1 : w.cell? ⟨g, 1, none⟩ = some (.int .u64 h) := hj.1.cell 1
  clear hj
  go_enter Try.func33, Try.ntmps33
  go_wp2_with fail
  go_ret
  exact ⟨rfl, rfl⟩
set_option maxRecDepth 100000 in
set_option maxHeartbeats 2000000 in
theorem bytesR_any (F : Nat → Prop) (g : Nat) (v vb : Value) (rs : List Rec) (h : Int) (bs : List UInt8) (w : World) (hj : Rj F w g v vb rs h bs) (hl : bs.length ≤ 100000000) :
    Calls Try.prog 35 #[.pointer (some ⟨g, 0, none⟩)] w (RetBytes bs w) := by
  obtain ⟨i0, hi0, hz0, hz1, hz2⟩ := info_parts u8_info
  obtain ⟨A, c, rfl, hs⟩ := own_form hj.2.2.2.2.1
  have q2 : (w.alloc (.cells #[] 5)).cell? ⟨g, 2, none⟩ = some (.slice A bs.length c) := (hj.1.alloc _).cell 2
  have HS := Lib.hid hs
  have HO : Hid (∀ (W : World) (cs : Array Value), cs.size = 0 → (W.alloc (.cells cs 5)).ownsRow 0 5 1 (.slice (some ⟨W.heap.size, 0, none⟩) 0 0) 0 []) := fun W cs h => World.ownsRow_made W cs 0 (Nat.zero_le _) (Nat.zero_le _) h
  clear hj hs
  go_enter Try.func35, Try.ntmps35
  go_wp2_with (at_builtin; refine wpList_append_sl _ rfl (.tmp 3) (.tmp 7) 40 rfl 5 i0 (.int .u8 0) 1 1 Try.underlying40 hi0 hz0 hz1 hz2 rfl (by decide) (.slice (some ⟨w.heap.size, 0, none⟩) 0 0) 0 [] rfl (HO.out w _ rfl) A bs.length c (byts bs) rfl (HS.out.alloc _) (byts_one _) (by unfold maxLen; omega) (by omega) ?_; intro v1 w1 hown1 hg1 hat1; have H1 := Lib.hid hown1; have H2 := Lib.hid hg1; have H3 := Lib.hid hat1; clear hown1 hg1 hat1)
  go_ret
  exact bytesR_end rfl H1.out H2.out H3.out

set_option maxRecDepth 100000 in
set_option maxHeartbeats 2000000 in
theorem recordR_out (F : Nat → Prop) (g : Nat) (v vb : Value) (rs : List Rec) (h : Int) (bs : List UInt8) (i : Int) (w : World) (hj : Rj F w g v vb rs h bs) (hi : i < 0 ∨ (rs.length : Int) ≤ i) :
    Calls Try.prog 34 #[.pointer (some ⟨g, 0, none⟩), .int .i64 i] w (RecPost none_ 2 w) := by
  obtain ⟨A, c, hv, _, _⟩ := hj.2.2.2.1.form
  subst hv
  obtain ⟨W0, hW0⟩ : ∃ W0, W0 = w.alloc (.cells #[.int .i64 0, .int .i64 0, .int .i64 0, .int .i64 0, .int .i64 0, .string ⟨#[]⟩, .string ⟨#[]⟩, .slice none 0 0, .int .u64 0, .int .u64 0, .string ⟨#[]⟩, .slice none 0 0] 27) := ⟨_, rfl⟩
  have KZ : Hid (Blk W0 w.heap.size 27 #[.int .i64 0, .int .i64 0, .int .i64 0, .int .i64 0, .int .i64 0, .string ⟨#[]⟩, .string ⟨#[]⟩, .slice none 0 0, .int .u64 0, .int .u64 0, .string ⟨#[]⟩, .slice none 0 0]) := by rw [hW0]; exact Blk.new _ _ _
  have BE : Hid (Below w.heap.size w W0) := by rw [hW0]; exact (Below.refl _ w).alloc (Nat.le_refl _) _
  have q0 : (w.alloc (.cells #[.int .i64 0, .int .i64 0, .int .i64 0, .int .i64 0, .int .i64 0, .string ⟨#[]⟩, .string ⟨#[]⟩, .slice none 0 0, .int .u64 0, .int .u64 0, .string ⟨#[]⟩, .slice none 0 0] 27)).cell? ⟨g, 0, none⟩ = some (.slice A rs.length c) := (hj.1.alloc _).cell 0
  have st := store_rec (cs := #[.int .i64 0, .int .i64 0, .int .i64 0, .int .i64 0, .int .i64 0, .string ⟨#[]⟩, .string ⟨#[]⟩, .slice none 0 0, .int .u64 0, .int .u64 0, .string ⟨#[]⟩, .slice none 0 0]) KZ.out rfl rfl rfl
  have BL := Lib.hid (Blk_setRow KZ.out #[.int .i64 0, .int .i64 0, .int .i64 0, .int .i64 0, .int .i64 0, .string ⟨#[]⟩, .string ⟨#[]⟩, .slice none 0 0, .int .u64 0, .int .u64 0, .string ⟨#[]⟩, .slice none 0 0])
  rw [hW0] at st
  have HW := Lib.hid hW0
  clear hj hW0
  by_cases h0 : i < 0
  · clear hi
    go_enter Try.func34, Try.ntmps34
    go_wp2_with fail
    rw [← HW.out]
    exact ret_rec2 Try.results34 rfl rfl BL.out rfl ⟨_, rfl, is_none _, BE.out.trans ((frm_setRow _ _ _).below BE.out.size (fun i hi e => by omega))⟩
  · have h1 : (rs.length : Int) ≤ i := by omega
    have t0 : decide (i < 0) = false := by simpa using h0
    clear hi
    go_enter Try.func34, Try.ntmps34
    go_wp2_with fail
    rw [← HW.out]
    exact ret_rec2 Try.results34 rfl rfl BL.out rfl ⟨_, rfl, is_none _, BE.out.trans ((frm_setRow _ _ _).below BE.out.size (fun i hi e => by omega))⟩
set_option maxRecDepth 100000 in
set_option maxHeartbeats 4000000 in
theorem recordR_in (F : Nat → Prop) (g : Nat) (v vb : Value) (rs : List Rec) (h : Int) (bs : List UInt8) (k : Nat) (r : Rec) (w : World) (hj : Rj F w g v vb rs h bs) (hk : rs[k]? = some r) (hw : Within r) :
    Calls Try.prog 34 #[.pointer (some ⟨g, 0, none⟩), .int .i64 (k : Int)] w (RecPost r 0 w) := by
  obtain ⟨A, c, hv, hs, _⟩ := hj.2.2.2.1.form
  subst hv
  have hlt := (List.getElem?_eq_some_iff.1 hk).1
  obtain ⟨b, off, cs, rfl, _, hi, hcell⟩ := hs k r hk
  obtain ⟨W0, hW0⟩ : ∃ W0, W0 = w.alloc (.cells #[.int .i64 0, .int .i64 0, .int .i64 0, .int .i64 0, .int .i64 0, .string ⟨#[]⟩, .string ⟨#[]⟩, .slice none 0 0, .int .u64 0, .int .u64 0, .string ⟨#[]⟩, .slice none 0 0] 27) := ⟨_, rfl⟩
  have KZ : Hid (Blk W0 w.heap.size 27 #[.int .i64 0, .int .i64 0, .int .i64 0, .int .i64 0, .int .i64 0, .string ⟨#[]⟩, .string ⟨#[]⟩, .slice none 0 0, .int .u64 0, .int .u64 0, .string ⟨#[]⟩, .slice none 0 0]) := by rw [hW0]; exact Blk.new _ _ _
  have BE : Hid (Below w.heap.size w W0) := by rw [hW0]; exact (Below.refl _ w).alloc (Nat.le_refl _) _
  have q0 : (w.alloc (.cells #[.int .i64 0, .int .i64 0, .int .i64 0, .int .i64 0, .int .i64 0, .string ⟨#[]⟩, .string ⟨#[]⟩, .slice none 0 0, .int .u64 0, .int .u64 0, .string ⟨#[]⟩, .slice none 0 0] 27)).cell? ⟨g, 0, none⟩ = some (.slice (some ⟨b, off, none⟩) rs.length c) := (hj.1.alloc _).cell 0
  have HI : Hid (IsRec W0 cs r) := hi.below BE.out (Nat.le_refl _)
  have ld : (loadRow 27 (.pointer (some ⟨b, off + k * 12, none⟩))).run Try.prog W0 = .ok (.agg cs) W0 := load_rec (fun j u hu => (BE.out.cell (World.block_lt_of_cell? w _ (hcell j u hu))).trans (hcell j u hu)) (rec_size hi)
  rw [hW0] at ld
  have HN := Lib.hid (Nat.le_trans hw.nums (by decide : 256 ≤ 5000))
  have HA := Lib.hid (Nat.le_trans hw.amts (by decide : 256 ≤ 5000))
  have hlti : (k : Int) < (rs.length : Int) := by omega
  have h0i : (0 : Int) ≤ (k : Int) := by omega
  have t1 : decide (rs.length ≤ k) = false := by simp; omega
  have HW := Lib.hid hW0
  clear hj hW0 hs hi hcell hk hw hlt
  go_enter Try.func34, Try.ntmps34
  go_wp2_with fail
  rw [← HW.out]
  clear HW
  refine (copiedR_any r cs _ HI.out HN.out HA.out).mono ?_
  rintro e w1 ⟨ds, rfl, id, b1, ls⟩
  have KZ1 := Lib.hid (KZ.out.below b1 KZ.out.lt)
  have st := store_rec (cs := ds) KZ1.out rfl (rec_size id) (rec_one id)
  have BL := Lib.hid (Blk_setRow KZ1.out ds)
  have EI : Hid (IsRec (w1.setRow w.heap.size ds) ds r) := Lib.hid (rec_frm id (frm_setRow _ _ _) ls fun i hi e => by have := KZ.out.lt; omega)
  have EB : Hid (Below w.heap.size w (w1.setRow w.heap.size ds)) := Lib.hid (BE.out.trans ((b1.mono BE.out.size).trans ((frm_setRow _ _ _).below (Nat.le_trans BE.out.size b1.size) (fun i hi e => by omega))))
  have ES := Lib.hid (rec_size id)
  clear id b1 ls q0 ld
  go_wp2_with fail
  exact ret_rec2 Try.results34 rfl rfl BL.out ES.out ⟨_, rfl, EI.out, EB.out⟩
theorem recordR_any (F : Nat → Prop) (g : Nat) (v vb : Value) (rs : List Rec) (h : Int) (bs : List UInt8) (i : Int) (w : World) (hj : Rj F w g v vb rs h bs) (hw : ∀ r ∈ rs, Good r) :
    Calls Try.prog 34 #[.pointer (some ⟨g, 0, none⟩), .int .i64 i] w (RecPost (recAt rs i).1 (recAt rs i).2 w) := by
  unfold recAt
  by_cases h0 : 0 ≤ i
  · rw [if_pos h0]
    cases hk : rs[i.toNat]? with
    | none => exact recordR_out F g v vb rs h bs i w hj (.inr (by have := List.getElem?_eq_none_iff.1 hk; omega))
    | some r =>
      have := recordR_in F g v vb rs h bs i.toNat r w hj hk (hw r (List.mem_of_getElem? hk)).2
      rw [Int.toNat_of_nonneg h0] at this
      exact this
  · rw [if_neg h0]
    exact recordR_out F g v vb rs h bs i w hj (.inl (by omega))
/-- what the fifth region has come to. -/
def St5 (F : Nat → Prop) (w : World) (g : Nat) (v : Value) (rs : List Rec) (h : Int) (bs : List UInt8) (cs : Array Value) (r : Rec) (W : World) : Prop :=
  ∃ F2 vb2, Rj F2 W g v vb2 rs h bs ∧ (∀ i, F2 i → F i ∨ w.heap.size ≤ i) ∧ Frm F w W ∧ Blk W w.heap.size 27 cs ∧ IsRec W cs r
theorem rj_five {F : Nat → Prop} {w w4 wd we : World} {g : Nat} {v vb ve o6 : Value} {rs : List Rec} {h : Int} {bs fr : List UInt8} {cs : Array Value} {r : Rec}
    (hj : Rj F w4 g v vb rs h bs) (hF0 : ∀ i, F i → i < w.heap.size) (hw : w.heap.size ≤ w4.heap.size) (h6 : ∀ k, o6.ownBlock = some k → w.heap.size < k) (fd : Frm (fun k => o6.ownBlock = some k) w4 wd) (hg : wd.grownBy we vb.ownBlock) (hat : ve.ownBlock = vb.ownBlock ∨ ve.ownBlock = some wd.heap.size) (hown : we.ownsRow 0 5 1 ve (bs.length + fr.length) (byts bs ++ byts fr))
    (kb : Blk w4 w.heap.size 27 cs) (ir : IsRec w4 cs r) (hd : Lst (fun i => ¬ F i ∧ i < w.heap.size) cs) (f4 : Frm F w w4) : St5 F w g v rs h (bs ++ fr) cs r (we.setCell ⟨g, 2, none⟩ ve) := by
  have hFb := hj.2.2.2.2.2
  have hf : Frm (fun k => o6.ownBlock = some k ∨ vb.ownBlock = some k) w4 we := (fd.weaken fun i _ hi => .inl hi).trans (Frm.of_grown (F := fun k => vb.ownBlock = some k) hg fun i hi => hi) (fun i _ hi => .inr hi)
  obtain ⟨j5, f5⟩ := rj_bytes (bs2 := bs ++ fr) hj hf (fun i hi hG => by
    rcases hG with e | e
    · have := h6 i e
      have := hF0 i hi
      omega
    · exact e) (by rw [List.length_append, byts_append]; exact hown) (fun k hk => by
    rcases hat with e | e
    · exact .inl (by rw [← e]; exact hk)
    · rw [e] at hk
      injection hk with hk
      have := fd.size
      exact .inr (by omega))
  have hout : ∀ i, i ≤ w.heap.size → ¬ F i → ¬ ((o6.ownBlock = some i ∨ vb.ownBlock = some i) ∨ i = g) := fun i hi hn e => by
    rcases e with (e | e) | e
    · have := h6 i e
      omega
    · exact hn (hFb i e)
    · exact hn (by rw [e]; exact hj.2.1)
  refine ⟨_, ve, j5, fun i hi => hi.imp id fun e => Nat.le_trans hw e.1, f4.trans f5 (fun i hi e => Classical.byContradiction fun hn => hout i (by omega) hn e), kb.frm f5 (hout _ (Nat.le_refl _) fun f => by have := hF0 _ f; omega), rec_frm ir f5 hd fun i hi => hout i (by omega) hi.1⟩
theorem encode_R (r : Rec) (cs : Array Value) (w : World) (hr : IsRec w cs r) (hg : Good r) : Calls Try.prog 20 #[.agg cs] w (RetBytes (enc r) w) := encodeR_any r cs w hr hg.1 hg.2.lim
set_option maxRecDepth 100000 in
set_option maxHeartbeats 2000000 in
theorem appendR_no (F : Nat → Prop) (g : Nat) (v vb : Value) (rs : List Rec) (h : Int) (bs : List UInt8) (r : Rec) (cs : Array Value) (w : World) (hj : Rj F w g v vb rs h bs) (hr : IsRec w cs r) (hn : rs.length < 4096) (hw : withinB r = false) :
    Calls Try.prog 31 #[.pointer (some ⟨g, 0, none⟩), .agg cs] w (RjPost F g rs h bs (.tuple #[.int .i64 0, .int .i64 3]) w) := by
  obtain ⟨A, c, hv, _, _⟩ := hj.2.2.2.1.form
  subst hv
  have HO := Lib.hid hj
  obtain ⟨W0, hW0⟩ : ∃ W0, W0 = w.alloc (.cells cs 27) := ⟨_, rfl⟩
  have BE : Hid (Below w.heap.size w W0) := by rw [hW0]; exact (Below.refl _ w).alloc (Nat.le_refl _) _
  have HR : Hid (IsRec W0 cs r) := hr.below BE.out (Nat.le_refl _)
  have HJ : Hid (Rj F W0 g (.slice A rs.length c) vb rs h bs) := hj.below BE.out
  have KB : Hid (Blk W0 w.heap.size 27 cs) := by rw [hW0]; exact Blk.new _ _ _
  have q0 : W0.cell? ⟨g, 0, none⟩ = some (.slice A rs.length c) := HJ.out.1.cell 0
  have ld : (loadRow 27 (.pointer (some ⟨w.heap.size, 0, none⟩))).run Try.prog W0 = .ok (.agg cs) W0 := load_blk KB.out (rec_size hr)
  have hn1 : (rs.length : Int) < 4096 := by omega
  have tn : decide (4096 ≤ rs.length) = false := by simp; omega
  have HY : Hid (withinB r = false) := hw
  have HS := Lib.hid (rec_size hr)
  obtain ⟨A7, c7, A11, c11, hlit, _⟩ := hr
  have hW2 : W0 = w.alloc (.cells (recCells r A7 c7 A11 c11) 27) := by rw [hW0, hlit]
  rw [hlit]
  unfold recCells at hW2 ⊢
  rw [hW2] at q0 ld
  have HW := Lib.hid hW2
  clear hj hW0 hW2 hlit hw
  go_enter Try.func31, Try.ntmps31
  go_wp2_with fail
  rw [← HW.out]
  clear HW
  refine (withinR_any r cs _ HR.out).mono ?_
  rintro e w1 ⟨rfl, b1⟩
  rw [HY.out]
  have EE := Lib.hid (rj_same (x := .tuple #[.int .i64 0, .int .i64 3]) HO.out (BE.out.trans (b1.mono BE.out.size)))
  clear q0 ld b1 HJ HR KB
  go_wp2_with fail
  go_ret2
  exact EE.out
set_option maxRecDepth 100000 in
set_option maxHeartbeats 16000000 in
theorem appendR_yes (F : Nat → Prop) (g : Nat) (v vb : Value) (rs : List Rec) (h : Nat) (bs : List UInt8) (r : Rec) (cs : Array Value) (w : World) (hj : Rj F w g v vb rs (h : Int) bs) (hr : IsRec w cs r) (hd : Lst (fun i => ¬ F i) cs) (hn : rs.length < 4096) (hg : Good r) (hbl : bs.length ≤ 100000000) :
    Calls Try.prog 31 #[.pointer (some ⟨g, 0, none⟩), .agg cs] w (RjPost F g (rs ++ [r]) ((hashN h (enc r) : Nat) : Int) (bs ++ frame (cont h r)) (.tuple #[.int .i64 (rs.length : Int), .int .i64 0]) w) := by
  obtain ⟨i0, hi0, hz0, hz1, hz2⟩ := info_parts rec_info
  obtain ⟨j0, hj0, hy0, hy1, hy2⟩ := info_parts u8_info
  have HD := Lib.hid (hd.and (lst_lt hr))
  have HG := Lib.hid hg
  have HN := Lib.hid (Nat.le_trans hg.2.nums (by decide : 256 ≤ 5000))
  have HA := Lib.hid (Nat.le_trans hg.2.amts (by decide : 256 ≤ 5000))
  have HNL := Lib.hid (Nat.le_trans hg.2.nums (by decide : 256 ≤ 5000))
  have HAL := Lib.hid (Nat.le_trans hg.2.amts (by decide : 256 ≤ 5000))
  have HH := Lib.hid (hashN_eq h (enc r))
  have HHL := Lib.hid (hashN_lt h (enc r))
  have HL := Lib.hid (enc_len hg)
  have HFL := Lib.hid (frame_le hg h)
  have HCL := Lib.hid (cont_len h r)
  obtain ⟨A, c, hv, _, _⟩ := hj.2.2.2.1.form
  subst hv
  have HO := Lib.hid hj
  obtain ⟨W0, hW0⟩ : ∃ W0, W0 = w.alloc (.cells cs 27) := ⟨_, rfl⟩
  have BE : Hid (Below w.heap.size w W0) := by rw [hW0]; exact (Below.refl _ w).alloc (Nat.le_refl _) _
  have HR : Hid (IsRec W0 cs r) := hr.below BE.out (Nat.le_refl _)
  have HJ : Hid (Rj F W0 g (.slice A rs.length c) vb rs (h : Int) bs) := hj.below BE.out
  have KB : Hid (Blk W0 w.heap.size 27 cs) := by rw [hW0]; exact Blk.new _ _ _
  have q0 : W0.cell? ⟨g, 0, none⟩ = some (.slice A rs.length c) := HJ.out.1.cell 0
  have ld : (loadRow 27 (.pointer (some ⟨w.heap.size, 0, none⟩))).run Try.prog W0 = .ok (.agg cs) W0 := load_blk KB.out (rec_size hr)
  have hn1 : (rs.length : Int) < 4096 := by omega
  have tn : decide (4096 ≤ rs.length) = false := by simp; omega
  have HY : Hid (withinB r = true) := (within_iff r).2 hg.2
  have HS := Lib.hid (rec_size hr)
  obtain ⟨A7, c7, A11, c11, hlit, _⟩ := hr
  have hW2 : W0 = w.alloc (.cells (recCells r A7 c7 A11 c11) 27) := by rw [hW0, hlit]
  rw [hlit]
  unfold recCells at hW2 ⊢
  rw [hW2] at q0 ld
  have HW := Lib.hid hW2
  clear hj hW0 hW2 hlit hg hd
  go_enter Try.func31, Try.ntmps31
  go_wp2_with fail
  rw [← HW.out]
  clear HW
  refine (withinR_any r cs _ HR.out).mono ?_
  rintro e w1 ⟨rfl, b1⟩
  rw [HY.out]
  have HF0 := Lib.hid HO.out.2.2.1
  have HFg := Lib.hid HO.out.2.1
  have HJ1 := Lib.hid (HJ.out.below b1)
  have KB1 := Lib.hid (KB.out.below b1 KB.out.lt)
  have HR1 := Lib.hid (HR.out.below b1 (Nat.le_refl _))
  have BE1 := Lib.hid (BE.out.trans (b1.mono BE.out.size))
  have l1 : (loadRow 27 (.pointer (some ⟨w.heap.size, 0, none⟩))).run Try.prog w1 = .ok (.agg cs) w1 := load_blk KB1.out HS.out
  clear q0 ld b1 HJ HR KB BE HO
  go_wp2_with fail
  refine (encode_R r cs _ HR1.out HG.out).mono ?_
  rintro e w2 ⟨v6, rfl, o6, nw6, b2⟩
  obtain ⟨A6, c6, rfl, s6⟩ := own_form o6
  have HJ2 := Lib.hid (HJ1.out.below b2)
  have KB2 := Lib.hid (KB1.out.below b2 KB1.out.lt)
  have HR2 := Lib.hid (HR1.out.below b2 (Nat.le_refl _))
  have BE2 := Lib.hid (BE1.out.trans (b2.mono BE1.out.size))
  have O6 := Lib.hid o6
  have N6 : Hid (∀ k, (Value.slice A6 (enc r).length c6).ownBlock = some k → w.heap.size < k) := Lib.hid (fun k hk => Nat.lt_of_lt_of_le KB1.out.lt (nw6 k hk))
  have S6 := Lib.hid s6
  clear b2 o6 nw6 s6 l1 HJ1 KB1 HR1 BE1
  go_upto_region 4 with fail
  go_cut [] (fun wx => Rj F wx g (.slice A rs.length c) vb rs ((hashN h (enc r) : Nat) : Int) bs ∧ Frm (· = g) w2 wx)
  case first =>
    have q1 : w2.drew.cell? ⟨g, 1, none⟩ = some (.int .u64 (h : Int)) := HJ2.out.1.cell 1
    have z1 : w2.drew.frozen? ⟨g, 1, none⟩ = false := HJ2.out.1.frozen 1
    have cv : (convert 40 9 (.slice A6 (enc r).length c6)).run Try.prog w2.drew = .ok (.string ⟨(enc r).toArray⟩) w2.drew := run_string_sl _ _ _ Try.underlying40 Try.underlying5 Try.underlying9 S6.out.drew _
    have HC : Hid (Dg.chainI (h : Int) (⟨(enc r).toArray⟩ : ByteArray).data.toList = ((hashN h (enc r) : Nat) : Int)) := HH.out
    go_region_law (first
      | (go_simp; go_at_call 72; refine (Dg.chainR_any _ _ _ (by have := HL.out; unfold maxLen; show (enc r).toArray.size ≤ _; simp; omega)).mono ?_; rintro e w5 ⟨rfl, rfl⟩; rw [HC.out]))
    all_goals
      have E4 := Lib.hid (rj_hash (h2 := ((hashN h (enc r) : Nat) : Int)) (HJ2.out.below (Below.refl _ w2).drew))
      have E5 : Hid (Frm (· = g) w2 _) := Lib.hid ((Frm.refl (· = g) w2).drew.trans E4.out.2 (fun _ _ h => h))
      clear q1 z1 cv
      go_wp2_with fail
      go_meet
      exact ⟨E4.out.1, E5.out⟩
  case rest =>
    obtain ⟨hc1, hc2⟩ := hcut
    have HJ4 := Lib.hid hc1
    have hne6 : ∀ k, (Value.slice A6 (enc r).length c6).ownBlock = some k → ¬ k = g := fun k hk e => by have := N6.out k hk; have := HF0.out g HFg.out; omega
    have O64 := Lib.hid (own_frm O6.out hc2 hne6)
    have KB4 := Lib.hid (KB2.out.frm hc2 (fun e => by have := HF0.out g HFg.out; omega))
    have HR4 := Lib.hid (rec_frm HR2.out hc2 HD.out (fun i hi e => hi.1 (by rw [e]; exact HFg.out)))
    have FR4 : Hid (Frm F w wc) := Lib.hid ((Frm.of_below (F := F) BE2.out (fun i hi hg => by omega)).trans hc2 (fun i _ e => by rw [e]; exact HFg.out))
    have FR4b : Hid (∀ k, w.heap.size ≤ k → k < wc.heap.size → ¬ F k) := Lib.hid (fun k hk _ f => by have := HF0.out k f; omega)
    have HWC : Hid (w.heap.size ≤ wc.heap.size) := Lib.hid (Nat.le_trans BE2.out.size hc2.size)
    have HJF := Lib.hid HJ4.out.2.2.1
    clear hc1 hc2 HJ2 KB2 HR2 BE2 O6 S6 HH hne6
    generalize hh : hashN h (enc r) = hx at *
    have HBB : Hid (enc r ++ big hx = cont h r) := Lib.hid (by rw [← hh]; rfl)
    clear hh
    generalize wc = w4 at *
    obtain ⟨A2, c2, rfl, s2⟩ := own_form HJ4.out.2.2.2.2.1
    clear s2
    go_upto_region 5 with fail
    go_cut [] (fun wx => St5 F w g (.slice A rs.length c) rs (hx : Int) (bs ++ frame (cont h r)) cs r wx)
    case first =>
      have q2 : w4.drew.cell? ⟨g, 2, none⟩ = some (.slice A2 bs.length c2) := HJ4.out.1.cell 2
      have q1 : w4.drew.cell? ⟨g, 1, none⟩ = some (.int .u64 (hx : Int)) := HJ4.out.1.cell 1
      have HBE : Hid ((enc r).length + (big hx).length = (cont h r).length ∧ byts (enc r) ++ byts (big hx) = byts (cont h r)) := Lib.hid ⟨by rw [← HBB.out, List.length_append], by rw [← HBB.out, byts_append]⟩
      have H6g : Hid ((Value.slice A6 (enc r).length c6).ownBlock ≠ some g) := Lib.hid (fun e => by have := N6.out g e; have := HF0.out g HFg.out; omega)
      go_region_law (first
        | (go_simp; go_at_call 73; refine (bigR_any hx _ HHL.out).mono ?_; rintro e wa ⟨va, rfl, oa, nwa, ba⟩; obtain ⟨Aa, ca, rfl, sa⟩ := own_form oa; have ka : wa.cell? ⟨g, 2, none⟩ = some (.slice A2 bs.length c2) := (HJ4.out.1.drew.below ba HJ4.out.1.lt).cell 2)
        | (refine step_append_sl _ (by rfl) (.tmp 35) (.tmp 40) 40 (by rfl) 5 j0 (.int .u8 0) 1 1 Try.underlying40 hj0 hy0 hy1 hy2 rfl (by decide) (.slice A6 (enc r).length c6) (enc r).length (byts (enc r)) (by rfl) (own_frm O64.out (frm_none ((Below.refl _ w4).drew.trans ba)) (fun _ _ f => f)) Aa (big hx).length ca (byts (big hx)) (by rfl) sa (byts_one _) (by have := HL.out; have := big_len hx; unfold maxLen; omega) (by have := HL.out; have := big_len hx; omega) ?_; intro vx wb hownb hgb hatb; rw [HBE.out.1, HBE.out.2] at hownb; obtain ⟨Ab, cb, rfl, sb⟩ := own_form hownb; have kb : wb.cell? ⟨g, 2, none⟩ = some (.slice A2 bs.length c2) := ((HJ4.out.1.drew.below ba HJ4.out.1.lt).grown hgb H6g.out).cell 2)
        | (go_simp; go_at_call 74; refine (frameR_any (cont h r) Ab (cont h r).length cb _ sb (by have := HL.out; have := HCL.out; omega)).mono ?_; rintro e wd ⟨vd, rfl, od, nwd, bd⟩; obtain ⟨Ad, cd, rfl, sd⟩ := own_form od; have kd : wd.cell? ⟨g, 2, none⟩ = some (.slice A2 bs.length c2) := (((HJ4.out.1.drew.below ba HJ4.out.1.lt).grown hgb H6g.out).below bd ((HJ4.out.1.drew.below ba HJ4.out.1.lt).grown hgb H6g.out).lt).cell 2; have FRd : Frm (fun k => (Value.slice A6 (enc r).length c6).ownBlock = some k) w4 wd := ((((frm_none ((Below.refl _ w4).drew.trans ba)).weaken (fun _ _ f => f.elim)).trans (Frm.of_grown (F := fun k => (Value.slice A6 (enc r).length c6).ownBlock = some k) hgb fun i hi => hi) (fun _ _ h => h)).trans (frm_none bd) (fun _ _ f => f.elim)))
        | (refine step_append_sl _ (by rfl) (.tmp 34) (.tmp 42) 40 (by rfl) 5 j0 (.int .u8 0) 1 1 Try.underlying40 hj0 hy0 hy1 hy2 rfl (by decide) (.slice A2 bs.length c2) bs.length (byts bs) (by rfl) (own_frm HJ4.out.2.2.2.2.1 FRd (fun k hk e => by have := N6.out k e; have := HF0.out k (HJ4.out.2.2.2.2.2 k hk); omega)) Ad (frame (cont h r)).length cd (byts (frame (cont h r))) (by rfl) sd (byts_one _) (by have := HFL.out; unfold maxLen; omega) (by have := HFL.out; omega) ?_; intro ve we howne hge hate; obtain ⟨Ae, ce, rfl, se⟩ := own_form howne; have ke : we.cell? ⟨g, 2, none⟩ = some (.slice A2 bs.length c2) := ((HJ4.out.1.frm FRd H6g.out).grown hge (own_apart HJ4.out.2.2.2.2.1 HJ4.out.1 (by decide))).cell 2; have fe : we.frozen? ⟨g, 2, none⟩ = false := ((HJ4.out.1.frm FRd H6g.out).grown hge (own_apart HJ4.out.2.2.2.2.1 HJ4.out.1 (by decide))).frozen 2))
      all_goals
        have E5 := Lib.hid (rj_five HJ4.out HF0.out HWC.out N6.out FRd hge hate howne KB4.out HR4.out HD.out FR4.out)
        clear howne hge hate ke fe FRd q1 q2
        go_wp2_with fail
        go_meet
        exact E5.out
    case rest =>
      obtain ⟨F5, vb5, hj5, hn5, hf5, hk5, hi5⟩ := hcut
      have HJ5 := Lib.hid hj5
      have HN5 := Lib.hid hn5
      have HF5 := Lib.hid hf5
      have KB5 := Lib.hid hk5
      have HR5 := Lib.hid hi5
      clear hj5 hn5 hf5 hk5 hi5 HJ4 HN HA O64 KB4 HR4 FR4 FR4b HJF HBB
      generalize wc = w5 at *
      obtain ⟨xs, L, hx5⟩ := HJ5.out.2.2.2.1
      have HX := Lib.hid hx5
      clear hx5
      go_wp2_with fail
      have qa : w5.drew.cell? ⟨g, 0, none⟩ = some (.slice A rs.length c) := HJ5.out.1.cell 0
      have la : (loadRow 27 (.pointer (some ⟨w.heap.size, 0, none⟩))).run Try.prog w5.drew = .ok (.agg cs) w5.drew := load_blk KB5.out.drew HS.out
      go_region_law (first
        | (refine step_append_sl _ (by rfl) (.tmp 50) (.tmp 53) 29 (by rfl) 27 i0 (.agg zeroRec) 12 152 Try.underlying29 hi0 hz0 hz1 hz2 rfl (by decide) (.slice A rs.length c) rs.length xs (by rfl) (own_frm HX.out.1 ((frm_none ((Below.refl _ w5).drew.trans b6)).alloc _) (fun _ _ g => g)) _ 1 1 (recCells r B7 d7 B11 d11).toList (by rfl) (new_row _ _ _ rfl rfl) (rec_ones id2) (by unfold maxLen; omega) (by omega) ?_; intro v2 w7 hown7 hg7 hat7; obtain ⟨A7', c7', rfl, s7⟩ := own_form hown7; have k7 : Hid (Blk w7 g 87 _) := Lib.hid (((HJ5.out.1.drew.below b6 HJ5.out.1.lt).alloc _).grown hg7 (own_apart HX.out.1 HJ5.out.1 (by decide))); have c7x : w7.cell? ⟨g, 0, none⟩ = some (.slice A rs.length c) := k7.out.cell 0; have f7x := k7.out.frozen 0)
        | (go_simp; go_at_call 75; refine (copiedR_any r cs _ (by exact HR5.out.keep fun _ _ => rfl) HNL.out HAL.out).mono ?_; rintro e w6 ⟨ds, rfl, id2, b6, ls⟩; have id3 := id2; obtain ⟨B7, d7, B11, d11, hds, _⟩ := id3; subst hds; unfold recCells; have k2 : w6.cell? ⟨g, 0, none⟩ = some (.slice A rs.length c) := (HJ5.out.1.drew.below b6 HJ5.out.1.lt).cell 0; have k2b : (w6.alloc (.cells #[.int .i64 r.k0, .int .i64 r.k1, .int .i64 r.k2, .int .i64 r.k3, .int .i64 r.k4, .string r.name, .string r.text, .slice B7 r.nums.length d7, .int .u64 r.key, .int .u64 r.nonce, .string r.ticket, .slice B11 r.amts.length d11] 27)).cell? ⟨g, 0, none⟩ = some (.slice A rs.length c) := ((HJ5.out.1.drew.below b6 HJ5.out.1.lt).alloc _).cell 0))
      all_goals
        obtain ⟨F9, j9, f9, n9⟩ := rj_store HJ5.out HX.out ((frm_none ((Below.refl _ w5).drew.trans b6)).alloc _) (id2.below ((Below.refl _ w6).alloc (Nat.le_refl _) _) (Nat.le_refl _)) rfl ls hg7 hat7 hown7
        have EE : Hid (RjPost F g (rs ++ [r]) (hx : Int) (bs ++ frame (cont h r)) (.tuple #[.int .i64 (rs.length : Int), .int .i64 0]) w _ _) := Lib.hid ⟨rfl, F9, _, vb5, j9, HF5.out.trans f9 (fun i hi e => (HN5.out i e).elim id (fun e => by omega)), fun i hi => (n9 i hi).elim (fun e => HN5.out i e) (fun e => .inr (Nat.le_trans HF5.out.size e))⟩
        have q9 : (w7.setCell ⟨g, 0, none⟩ (.slice A7' (rs.length + 1) c7')).cell? ⟨g, 0, none⟩ = some (.slice A7' (rs.length + 1) c7') := j9.1.cell 0
        have hrl : (rs.length : Int) + 1 - 1 = (rs.length : Int) := by omega
        clear qa la k2 k2b hown7 hg7 hat7 s7 k7 id2 ls b6 j9 f9 n9 HX HJ5 KB5 HR5
        go_wp2_with fail
        go_ret2
        exact EE.out
/-- the records that a journal takes, among the first k. -/
def ins (rs : List Rec) (k : Nat) : List Rec := (rs.take k).filter withinB
theorem ins_yes {rs : List Rec} {k : Nat} (hk : k < rs.length) (h : withinB rs[k] = true) : ins rs (k + 1) = ins rs k ++ [rs[k]] := by
  unfold ins
  rw [List.take_succ_eq_append_getElem hk, List.filter_append]
  simp [h]
theorem ins_no {rs : List Rec} {k : Nat} (hk : k < rs.length) (h : withinB rs[k] = false) : ins rs (k + 1) = ins rs k := by
  unfold ins
  rw [List.take_succ_eq_append_getElem hk, List.filter_append]
  simp [h]
theorem ins_le (rs : List Rec) (k : Nat) : (ins rs k).length ≤ rs.length := by
  unfold ins
  have h1 := List.length_filter_le withinB (rs.take k)
  have h2 : (rs.take k).length = min k rs.length := List.length_take
  omega
theorem ins_good {rs : List Rec} (hf : ∀ r ∈ rs, RecFit r) (k : Nat) : ∀ r ∈ ins rs k, Good r := fun r hr => by
  unfold ins at hr
  rw [List.mem_filter] at hr
  exact ⟨hf r (List.mem_of_mem_take hr.1), (within_iff r).1 hr.2⟩
theorem St.frm {w W W' : World} {F G : Nat → Prop} {g h gb : Nat} {v : Value} {js : List Rec} {cs : Array Value} {r : Rec} (s : St w F g v js h (.slice none 0 0) [] gb cs r W) (hf : Frm G W W') (h1 : ∀ i, G i → w.heap.size ≤ i) (h2 : ∀ i, F i → ¬ G i) (h3 : ¬ G gb) : St w F g v js h (.slice none 0 0) [] gb cs r W' :=
  ⟨s.j.frm hf h2, s.n, InRow.none _ _ _, s.kb.frm hf h3, rec_frm s.ir hf s.ls (fun i hi e => by have := h1 i e; omega), s.ls, s.fb, s.old.trans (hf.below s.old.size fun i hi e => by have := h1 i e; omega)⟩
/-- what a round has come to: both journals, apart from each other. -/
def ApRel (w : World) (g gk : Nat) (js : List Rec) (W : World) : Prop :=
  ∃ F1 v F2 v2 vb, Jo F1 W g v js ((hashes 0 js : Nat) : Int) ∧ Rj F2 W gk v2 vb js ((hashes 0 js : Nat) : Int) (jbytes 0 js) ∧ (∀ i, F1 i → w.heap.size ≤ i) ∧ (∀ i, F2 i → w.heap.size ≤ i) ∧ (∀ i, F1 i → ¬ F2 i) ∧ Below w.heap.size w W
theorem ap_new {w w1 w2 w3 : World} {g gk : Nat} (b1 : Below w.heap.size w w1) (hg : w1.heap.size ≤ g) (k2 : Blk w2 g 58 #[.slice none 0 0, .int .u64 0]) (b2 : Below w1.heap.size w1 w2) (hk : w2.heap.size ≤ gk) (k3 : Blk w3 gk 87 #[.slice none 0 0, .int .u64 0, .slice none 0 0]) (b3 : Below w2.heap.size w2 w3) : ApRel w g gk [] w3 := by
  have h1 := b1.size
  have h2 := b2.size
  have hlt := k2.lt
  exact ⟨_, _, _, _, _, jo_new (k2.below b3 k2.lt), rj_new k3, fun i hi => by rw [hi]; omega, fun i hi => by rw [hi]; omega, fun i hi hk2 => by omega, b1.trans ((b2.mono h1).trans (b3.mono (Nat.le_trans h1 h2)))⟩
set_option maxRecDepth 100000 in
set_option maxHeartbeats 16000000 in
theorem appends_walk (rs : List Rec) (A : Option Addr) (n c : Nat) (at1 : Int) (w : World) (hn : rs.length = n) (h : RecSl w A rs) (hfit : ∀ r ∈ rs, RecFit r) :
    Calls Try.prog 9 #[.slice A n c, .int .i64 at1] w (YesB w) := by
  have HN := Lib.hid hn
  have H := Lib.hid h
  have HFit := Lib.hid hfit
  cases hfw : fewB rs with
  | false =>
    clear hn h hfit
    go_enter Try.func9, Try.ntmps9
    go_wp2_with fail
    refine (few_any rs A n c _ HN.out H.out).mono ?_
    rw [hfw]
    rintro e w1 ⟨rfl, b1⟩
    have B1 := Lib.hid b1
    clear b1
    go_wp2_with fail
    refine (awake_any _).mono ?_
    rintro e w2 ⟨rfl, b2⟩
    have B2 := Lib.hid (B1.out.trans (b2.mono B1.out.size))
    clear b2
    go_wp2_with fail
    go_ret
    exact ⟨rfl, B2.out⟩
  | true =>
    have hn60 : n ≤ 60 := by have := (few_lim hfw).1; omega
    have HFW := Lib.hid hfw
    clear hn h hfit hfw
    go_enter Try.func9, Try.ntmps9
    go_wp2_with fail
    refine (few_any rs A n c _ HN.out H.out).mono ?_
    rw [HFW.out]
    rintro e w1 ⟨rfl, b1⟩
    have B1 := Lib.hid b1
    clear b1
    go_wp2_with fail
    refine (new_any _).mono ?_
    rintro e w2 ⟨g, rfl, hg, k2, b2⟩
    have HG1 := Lib.hid hg
    have K2 := Lib.hid k2
    have B2 := Lib.hid b2
    clear hg k2 b2
    go_wp2_with fail
    refine (newJR_any _).mono ?_
    rintro e w3 ⟨gk, rfl, hk, k3, b3⟩
    have R0 : Hid (ApRel w g gk (ins rs 0) w3) := Lib.hid (ap_new B1.out HG1.out K2.out B2.out hk k3 b3)
    clear hk k3 b3
    go_wp2_with fail
    go_loopw [27] (fun i wr => ∃ k : Nat, k ≤ n ∧ i = .int .i64 (k : Int) ∧ Hid (ApRel w g gk (ins rs k) wr)) (fun i _ => n - (intOf i).toNat)
    case atStart => exact ⟨0, by omega, rfl, R0⟩
    case round =>
      obtain ⟨k, hk, rfl, HR⟩ := hrel
      obtain ⟨F1, v, F2, v2, vb, hj, hrj, hf1, hf2, hdj, hbel⟩ := HR.out
      by_cases hlt : k < n
      · have hkr : k < rs.length := by have := HN.out; omega
        obtain ⟨b, off, cs, rfl, _, hi, hcell⟩ := H.out k _ (List.getElem?_eq_getElem hkr)
        have HLS := lst_lt hi
        have hi2 : IsRec wr cs rs[k] := hi.below hbel (Nat.le_refl _)
        have ld : (loadRow 27 (.pointer (some ⟨b, off + k * 12, none⟩))).run Try.prog wr = .ok (.agg cs) wr := load_rec (fun j u hu => (hbel.cell (World.block_lt_of_cell? w _ (hcell j u hu))).trans (hcell j u hu)) (rec_size hi)
        have HY := Lib.hid (fun h => ins_yes hkr h)
        have HNo := Lib.hid (fun h => ins_no hkr h)
        have HF := Lib.hid (HFit.out rs[k] (List.getElem_mem hkr))
        have hlen := ins_le rs k
        have HLen : Hid ((ins rs k).length < 4096) := Lib.hid (by have := HN.out; omega)
        have HBL : Hid ((jbytes 0 (ins rs k)).length ≤ 100000000) := Lib.hid (by have := jbytes_len (ins rs k) 0 (ins_good HFit.out k); have := HN.out; omega)
        have kz0 : Blk (wr.alloc (.cells #[.int .i64 0, .int .i64 0, .int .i64 0, .int .i64 0, .int .i64 0, .string ⟨#[]⟩, .string ⟨#[]⟩, .slice none 0 0, .int .u64 0, .int .u64 0, .string ⟨#[]⟩, .slice none 0 0] 27)) wr.heap.size 27 #[.int .i64 0, .int .i64 0, .int .i64 0, .int .i64 0, .int .i64 0, .string ⟨#[]⟩, .string ⟨#[]⟩, .slice none 0 0, .int .u64 0, .int .u64 0, .string ⟨#[]⟩, .slice none 0 0] := Blk.new _ _ _
        have st0 := store_rec (cs := cs) kz0 rfl (rec_size hi) (rec_one hi)
        have KB0 := Blk_setRow kz0 cs
        have BA0 : Below wr.heap.size wr ((wr.alloc (.cells #[.int .i64 0, .int .i64 0, .int .i64 0, .int .i64 0, .int .i64 0, .string ⟨#[]⟩, .string ⟨#[]⟩, .slice none 0 0, .int .u64 0, .int .u64 0, .string ⟨#[]⟩, .slice none 0 0] 27)).setRow wr.heap.size cs) := ((Below.refl _ wr).alloc (Nat.le_refl _) _).trans ((frm_setRow _ _ _).below (by simp) (fun i hi e => by omega))
        obtain ⟨W10, hW10⟩ : ∃ W1, W1 = ((wr.alloc (.cells #[.int .i64 0, .int .i64 0, .int .i64 0, .int .i64 0, .int .i64 0, .string ⟨#[]⟩, .string ⟨#[]⟩, .slice none 0 0, .int .u64 0, .int .u64 0, .string ⟨#[]⟩, .slice none 0 0] 27)).setRow wr.heap.size cs) := ⟨_, rfl⟩
        rw [← hW10] at st0 KB0 BA0
        clear hW10 kz0
        have S0 : Hid (St w F1 g v (ins rs k) (hashes 0 (ins rs k)) (.slice none 0 0) [] wr.heap.size cs rs[k] W10) := Lib.hid ⟨hj.below BA0, hf1, InRow.none _ _ _, KB0, hi2.below BA0 (Nat.le_refl _), HLS, (fun f => by have := hj.2.2.1 _ f; omega), hbel.trans (BA0.mono hbel.size)⟩
        have RJ0 := Lib.hid (hrj.below BA0)
        have HGB : Hid (¬ F2 wr.heap.size) := Lib.hid (fun f => by have := hrj.2.2.1 _ f; omega)
        have HF2 := Lib.hid hf2
        have HDj := Lib.hid hdj
        have l0 := S0.out.load
        have hlti : (k : Int) < (n : Int) := by omega
        have h0i : (0 : Int) ≤ (k : Int) := by omega
        clear hj hrj hf1 hf2 hdj hbel hi hi2 HLS hcell KB0 BA0 HR hlen
        generalize rs[k] = r at *
        generalize ins rs k = js at *
        cases hw : withinB r with
        | false =>
          have HW := Lib.hid hw
          clear hw
          go_wp2_with fail
          refine (append_no F1 g v js _ r cs _ S0.out.j S0.out.ir HLen.out HW.out).mono ?_
          rintro e w3 ⟨rfl, F3, v3, j3, f3, n3⟩
          have S3 := Lib.hid (S0.out.app j3 f3 n3)
          have RJ3 := Lib.hid (RJ0.out.frm f3 (fun i hi e => HDj.out i e hi))
          have LF2 : Hid (Lst (fun i => ¬ F2 i) cs) := Lib.hid (S0.out.ls.mono fun i hi f => by have := HF2.out i f; omega)
          have HDj3 : Hid (∀ i, F3 i → ¬ F2 i) := Lib.hid (fun i hi f => by
            rcases n3 i hi with e | e
            · exact HDj.out i e f
            · have := RJ0.out.2.2.1 i f
              omega)
          have l3 := S3.out.load
          clear j3 f3 n3 l0 st0 S0 RJ0 ld
          go_wp2_with fail
          refine (appendR_no F2 gk v2 vb js _ (jbytes 0 js) r cs _ RJ3.out S3.out.ir HLen.out HW.out).mono ?_
          rintro e w4 ⟨rfl, F4, v4, vb4, j4, f4, n4⟩
          have S4 := Lib.hid (S3.out.frm f4 HF2.out HDj3.out HGB.out)
          have RJ4 := Lib.hid j4
          have HF4 : Hid (∀ i, F4 i → w.heap.size ≤ i) := Lib.hid (fun i hi => (n4 i hi).elim (HF2.out i) (fun e => Nat.le_trans S3.out.old.size e))
          have HDj4 : Hid (∀ i, F3 i → ¬ F4 i) := Lib.hid (fun i hi f => by
            rcases n4 i f with e | e
            · exact HDj3.out i hi e
            · have := S3.out.j.2.2.1 i hi
              omega)
          clear j4 f4 n4 l3 S3 RJ3 LF2 HDj3
          go_wp2_with fail
          refine (len_any F3 g v3 _ _ _ S4.out.j).mono ?_
          rintro e w5 ⟨rfl, rfl⟩
          go_wp2_with fail
          refine (lenR_any F4 gk v4 vb4 _ _ _ _ RJ4.out).mono ?_
          rintro e w5 ⟨rfl, rfl⟩
          go_wp2_with fail
          refine (jhash_any F3 g v3 _ _ _ S4.out.j).mono ?_
          rintro e w5 ⟨rfl, rfl⟩
          go_wp2_with fail
          refine (hashR_any F4 gk v4 vb4 _ _ _ _ RJ4.out).mono ?_
          rintro e w5 ⟨rfl, rfl⟩
          have RR : Hid (ApRel w g gk (ins rs (k + 1)) _) := Lib.hid (by
            rw [HNo.out HW.out]
            exact ⟨F3, v3, F4, v4, vb4, S4.out.j, RJ4.out, S4.out.n, HF4.out, HDj4.out, S4.out.old⟩)
          clear S4 RJ4
          go_wp2_with fail
          go_roundw
          case rel => exact ⟨k + 1, by omega, by go_num, RR⟩
          case measure => simp [intOf]; omega
        | true =>
          have HW := Lib.hid hw
          have HG : Hid (Good r) := Lib.hid ⟨HF.out, (within_iff r).1 hw⟩
          clear hw
          go_wp2_with fail
          refine (append_yes F1 g v js (hashes 0 js) r cs _ S0.out.j S0.out.ir S0.out.lstF HLen.out HG.out).mono ?_
          rintro e w3 ⟨rfl, F3, v3, j3, f3, n3⟩
          have S3 := Lib.hid (S0.out.app j3 f3 n3)
          have RJ3 := Lib.hid (RJ0.out.frm f3 (fun i hi e => HDj.out i e hi))
          have LF2 : Hid (Lst (fun i => ¬ F2 i) cs) := Lib.hid (S0.out.ls.mono fun i hi f => by have := HF2.out i f; omega)
          have HDj3 : Hid (∀ i, F3 i → ¬ F2 i) := Lib.hid (fun i hi f => by
            rcases n3 i hi with e | e
            · exact HDj.out i e f
            · have := RJ0.out.2.2.1 i f
              omega)
          have l3 := S3.out.load
          clear j3 f3 n3 l0 st0 S0 RJ0 ld
          go_wp2_with fail
          refine (appendR_yes F2 gk v2 vb js (hashes 0 js) (jbytes 0 js) r cs _ RJ3.out S3.out.ir LF2.out HLen.out HG.out HBL.out).mono ?_
          rintro e w4 ⟨rfl, F4, v4, vb4, j4, f4, n4⟩
          have S4 := Lib.hid (S3.out.frm f4 HF2.out HDj3.out HGB.out)
          have RJ4 := Lib.hid j4
          have HF4 : Hid (∀ i, F4 i → w.heap.size ≤ i) := Lib.hid (fun i hi => (n4 i hi).elim (HF2.out i) (fun e => Nat.le_trans S3.out.old.size e))
          have HDj4 : Hid (∀ i, F3 i → ¬ F4 i) := Lib.hid (fun i hi f => by
            rcases n4 i f with e | e
            · exact HDj3.out i hi e
            · have := S3.out.j.2.2.1 i hi
              omega)
          clear j4 f4 n4 l3 S3 RJ3 LF2 HDj3
          go_wp2_with fail
          refine (len_any F3 g v3 _ _ _ S4.out.j).mono ?_
          rintro e w5 ⟨rfl, rfl⟩
          go_wp2_with fail
          refine (lenR_any F4 gk v4 vb4 _ _ _ _ RJ4.out).mono ?_
          rintro e w5 ⟨rfl, rfl⟩
          go_wp2_with fail
          refine (jhash_any F3 g v3 _ _ _ S4.out.j).mono ?_
          rintro e w5 ⟨rfl, rfl⟩
          go_wp2_with fail
          refine (hashR_any F4 gk v4 vb4 _ _ _ _ RJ4.out).mono ?_
          rintro e w5 ⟨rfl, rfl⟩
          have RR : Hid (ApRel w g gk (ins rs (k + 1)) _) := Lib.hid (by
            rw [HY.out HW.out]
            unfold ApRel
            rw [hashes_snoc, jbytes_snoc]
            exact ⟨F3, v3, F4, v4, vb4, S4.out.j, RJ4.out, S4.out.n, HF4.out, HDj4.out, S4.out.old⟩)
          clear S4 RJ4
          go_wp2_with fail
          go_roundw
          case rel => exact ⟨k + 1, by omega, by go_num, RR⟩
          case measure => simp [intOf]; omega
      · obtain rfl : k = n := by omega
        have HL60 : Hid ((ins rs k).length ≤ 60) := Lib.hid (by have := ins_le rs k; have := HN.out; omega)
        have HGd := Lib.hid (ins_good HFit.out k)
        have J_0 : Hid (Jo F1 wr g v (ins rs k) ((hashes 0 (ins rs k) : Nat) : Int)) := hj
        have RJ_0 : Hid (Rj F2 wr gk v2 vb (ins rs k) ((hashes 0 (ins rs k) : Nat) : Int) (jbytes 0 (ins rs k))) := hrj
        have BE_0 : Hid (Below w.heap.size w wr) := hbel
        clear hj hrj hf1 hf2 hdj hbel HR
        generalize ins rs k = js at *
        have HBL : Hid ((jbytes 0 js).length ≤ 100000000) := Lib.hid (by have := jbytes_len js 0 HGd.out; have := HL60.out; omega)
        have C1 := Lib.hid (fun W (h : Jo F1 W g v js ((hashes 0 js : Nat) : Int)) => record_any F1 g v js _ at1 W h HGd.out)
        have C2 := Lib.hid (fun W (h : Rj F2 W gk v2 vb js ((hashes 0 js : Nat) : Int) (jbytes 0 js)) => recordR_any F2 gk v2 vb js _ _ at1 W h HGd.out)
        generalize (recAt js at1).1 = ra at *
        generalize (recAt js at1).2 = re at *
        go_wp2_with fail
        refine (C1.out _ J_0.out).mono ?_
        rintro e u0 ⟨cA, rfl, ir, bu⟩
        have kz05 : Blk (u0.alloc (.cells #[.int .i64 0, .int .i64 0, .int .i64 0, .int .i64 0, .int .i64 0, .string ⟨#[]⟩, .string ⟨#[]⟩, .slice none 0 0, .int .u64 0, .int .u64 0, .string ⟨#[]⟩, .slice none 0 0] 27)) u0.heap.size 27 #[.int .i64 0, .int .i64 0, .int .i64 0, .int .i64 0, .int .i64 0, .string ⟨#[]⟩, .string ⟨#[]⟩, .slice none 0 0, .int .u64 0, .int .u64 0, .string ⟨#[]⟩, .slice none 0 0] := Blk.new _ _ _
        have st05 := store_rec (cs := cA) kz05 rfl (rec_size ir) (rec_one ir)
        have KB05 := Blk_setRow kz05 cA
        have BA05 : Below u0.heap.size u0 ((u0.alloc (.cells #[.int .i64 0, .int .i64 0, .int .i64 0, .int .i64 0, .int .i64 0, .string ⟨#[]⟩, .string ⟨#[]⟩, .slice none 0 0, .int .u64 0, .int .u64 0, .string ⟨#[]⟩, .slice none 0 0] 27)).setRow u0.heap.size cA) := ((Below.refl _ u0).alloc (Nat.le_refl _) _).trans ((frm_setRow _ _ _).below (by simp) (fun i hi e => by omega))
        obtain ⟨W105, hW105⟩ : ∃ W1, W1 = ((u0.alloc (.cells #[.int .i64 0, .int .i64 0, .int .i64 0, .int .i64 0, .int .i64 0, .string ⟨#[]⟩, .string ⟨#[]⟩, .slice none 0 0, .int .u64 0, .int .u64 0, .string ⟨#[]⟩, .slice none 0 0] 27)).setRow u0.heap.size cA) := ⟨_, rfl⟩
        rw [← hW105] at st05 KB05 BA05
        clear hW105 kz05
        have BB : Below wr.heap.size wr W105 := bu.trans (BA05.mono bu.size)
        have J_1 := Lib.hid (J_0.out.below BB)
        have RJ_1 := Lib.hid (RJ_0.out.below BB)
        have BE_1 := Lib.hid (BE_0.out.trans (BB.mono BE_0.out.size))
        clear J_0 RJ_0 BE_0
        have KA_0 := Lib.hid KB05
        have IA_0 := Lib.hid (ir.below BA05 (Nat.le_refl _))
        have HAS := Lib.hid (rec_size ir)
        clear ir bu BB KB05 BA05
        go_wp2_with fail
        clear st05
        refine (C2.out _ RJ_1.out).mono ?_
        rintro e u1 ⟨cB, rfl, ir, bu⟩
        have kz15 : Blk (u1.alloc (.cells #[.int .i64 0, .int .i64 0, .int .i64 0, .int .i64 0, .int .i64 0, .string ⟨#[]⟩, .string ⟨#[]⟩, .slice none 0 0, .int .u64 0, .int .u64 0, .string ⟨#[]⟩, .slice none 0 0] 27)) u1.heap.size 27 #[.int .i64 0, .int .i64 0, .int .i64 0, .int .i64 0, .int .i64 0, .string ⟨#[]⟩, .string ⟨#[]⟩, .slice none 0 0, .int .u64 0, .int .u64 0, .string ⟨#[]⟩, .slice none 0 0] := Blk.new _ _ _
        have st15 := store_rec (cs := cB) kz15 rfl (rec_size ir) (rec_one ir)
        have KB15 := Blk_setRow kz15 cB
        have BA15 : Below u1.heap.size u1 ((u1.alloc (.cells #[.int .i64 0, .int .i64 0, .int .i64 0, .int .i64 0, .int .i64 0, .string ⟨#[]⟩, .string ⟨#[]⟩, .slice none 0 0, .int .u64 0, .int .u64 0, .string ⟨#[]⟩, .slice none 0 0] 27)).setRow u1.heap.size cB) := ((Below.refl _ u1).alloc (Nat.le_refl _) _).trans ((frm_setRow _ _ _).below (by simp) (fun i hi e => by omega))
        obtain ⟨W115, hW115⟩ : ∃ W1, W1 = ((u1.alloc (.cells #[.int .i64 0, .int .i64 0, .int .i64 0, .int .i64 0, .int .i64 0, .string ⟨#[]⟩, .string ⟨#[]⟩, .slice none 0 0, .int .u64 0, .int .u64 0, .string ⟨#[]⟩, .slice none 0 0] 27)).setRow u1.heap.size cB) := ⟨_, rfl⟩
        rw [← hW115] at st15 KB15 BA15
        clear hW115 kz15
        have BB : Below W105.heap.size W105 W115 := bu.trans (BA15.mono bu.size)
        have J_2 := Lib.hid (J_1.out.below BB)
        have RJ_2 := Lib.hid (RJ_1.out.below BB)
        have BE_2 := Lib.hid (BE_1.out.trans (BB.mono BE_1.out.size))
        have KA_1 := Lib.hid (KA_0.out.below BB KA_0.out.lt)
        have IA_1 := Lib.hid (IA_0.out.below BB (Nat.le_refl _))
        clear J_1 RJ_1 BE_1 KA_0 IA_0
        have KB_0 := Lib.hid KB15
        have IB_0 := Lib.hid (ir.below BA15 (Nat.le_refl _))
        have HBS := Lib.hid (rec_size ir)
        clear ir bu BB KB15 BA15
        go_wp2_with fail
        clear st15
        clear C1 C2
        have CS : Hid (∀ W, IsRec W cA ra → IsRec W cB ra → Calls Try.prog 15 #[.agg cA, .agg cB] W (RB true W)) := fun W h k => by have := sameR_any cA cB ra ra W h k; rw [same_self] at this; exact this
        have F : Below W115.heap.size W115 W115.drew := (Below.refl _ _).drew
        have J_3 := Lib.hid (J_2.out.below F)
        have RJ_3 := Lib.hid (RJ_2.out.below F)
        have BE_3 := Lib.hid (BE_2.out.trans (F.mono BE_2.out.size))
        have KA_2 := Lib.hid (KA_1.out.below F KA_1.out.lt)
        have IA_2 := Lib.hid (IA_1.out.below F (Nat.le_refl _))
        have KB_1 := Lib.hid (KB_0.out.below F KB_0.out.lt)
        have IB_1 := Lib.hid (IB_0.out.below F (Nat.le_refl _))
        clear J_2 RJ_2 BE_2 KA_1 IA_1 KB_0 IB_0
        clear F
        refine Reg.start (by kernel_rfl) ?_
        refine Reg.take 0 (v := ?_) rfl (by kernel_rfl) (fun _ _ _ h => h) rfl ?_ ?_
        rotate_left
        · intro W hW
          go_simp
          try with_reducible rfl
        try simp only [Act.put, List.setIfInBounds_toArray, List.set_cons_zero, List.set_cons_succ]
        refine Reg.take 1 (v := ?_) rfl (by kernel_rfl) (fun _ _ _ h => h) rfl ?_ ?_
        rotate_left
        · intro W hW
          go_simp
          try with_reducible rfl
        try simp only [Act.put, List.setIfInBounds_toArray, List.set_cons_zero, List.set_cons_succ]
        refine Reg.take 2 (v := ?_) rfl (by kernel_rfl) (fun _ _ _ h => h) rfl ?_ ?_
        rotate_left
        · intro W hW
          go_simp
          try with_reducible rfl
        try simp only [Act.put, List.setIfInBounds_toArray, List.set_cons_zero, List.set_cons_succ]
        refine Reg.take 3 (v := ?_) rfl (by kernel_rfl) (fun _ _ _ h => h) rfl ?_ ?_
        rotate_left
        · intro W hW
          go_simp
          try with_reducible rfl
        try simp only [Act.put, List.setIfInBounds_toArray, List.set_cons_zero, List.set_cons_succ]
        refine Reg.take 4 (v := ?_) rfl (by kernel_rfl) (fun _ _ _ h => h) rfl ?_ ?_
        rotate_left
        · intro W hW
          have l1 : (loadRow 27 (.pointer (some ⟨u0.heap.size, 0, none⟩))).run Try.prog W = .ok (.agg cA) W := load_blk (KA_2.out.below hW.all KA_2.out.lt) HAS.out
          go_simp
          try with_reducible rfl
        try simp only [Act.put, List.setIfInBounds_toArray, List.set_cons_zero, List.set_cons_succ]
        refine Reg.take 5 (v := ?_) rfl (by kernel_rfl) (fun _ _ _ h => h) rfl ?_ ?_
        rotate_left
        · intro W hW
          have l1 : (loadRow 27 (.pointer (some ⟨u1.heap.size, 0, none⟩))).run Try.prog W = .ok (.agg cB) W := load_blk (KB_1.out.below hW.all KB_1.out.lt) HBS.out
          go_simp
          try with_reducible rfl
        try simp only [Act.put, List.setIfInBounds_toArray, List.set_cons_zero, List.set_cons_succ]
        refine Reg.do_ 6 rfl (by kernel_rfl) rfl (fun K hK => ?_)
        go_simp
        refine (CS.out _ IA_2.out IB_1.out).mono ?_
        rintro e v1 ⟨rfl, b1⟩
        have J_4 := Lib.hid (J_3.out.below b1)
        have RJ_4 := Lib.hid (RJ_3.out.below b1)
        have BE_4 := Lib.hid (BE_3.out.trans (b1.mono BE_3.out.size))
        have KA_3 := Lib.hid (KA_2.out.below b1 KA_2.out.lt)
        have IA_3 := Lib.hid (IA_2.out.below b1 (Nat.le_refl _))
        have KB_2 := Lib.hid (KB_1.out.below b1 KB_1.out.lt)
        have IB_2 := Lib.hid (IB_1.out.below b1 (Nat.le_refl _))
        clear J_3 RJ_3 BE_3 KA_2 IA_2 KB_1 IB_1
        refine hK.out _ _ b1 ?_
        clear hK K b1
        try simp only [Act.put, List.setIfInBounds_toArray, List.set_cons_zero, List.set_cons_succ]
        refine Reg.take 7 (v := ?_) rfl (by kernel_rfl) (fun _ _ _ h => h) rfl ?_ ?_
        rotate_left
        · intro W hW
          go_simp
          try with_reducible rfl
        try simp only [Act.put, List.setIfInBounds_toArray, List.set_cons_zero, List.set_cons_succ]
        refine Reg.take 8 (v := ?_) rfl (by kernel_rfl) (fun _ _ _ h => h) rfl ?_ ?_
        rotate_left
        · intro W hW
          go_simp
          try with_reducible rfl
        try simp only [Act.put, List.setIfInBounds_toArray, List.set_cons_zero, List.set_cons_succ]
        refine Reg.take 9 (v := ?_) rfl (by kernel_rfl) (fun _ _ _ h => h) rfl ?_ ?_
        rotate_left
        · intro W hW
          go_simp
          try with_reducible rfl
        try simp only [Act.put, List.setIfInBounds_toArray, List.set_cons_zero, List.set_cons_succ]
        refine Reg.take 12 (v := ?_) rfl (by kernel_rfl) (fun _ _ _ h => h) rfl ?_ ?_
        rotate_left
        · intro W hW
          go_simp
          try with_reducible rfl
        try simp only [Act.put, List.setIfInBounds_toArray, List.set_cons_zero, List.set_cons_succ]
        refine Reg.do_ 10 rfl (by kernel_rfl) rfl (fun K hK => ?_)
        go_simp
        refine (bytes_any F1 g _ js _ _ J_4.out HGd.out HL60.out).mono ?_
        rintro e v2 ⟨xS1, rfl, oS1, fS1, b2⟩
        have J_5 := Lib.hid (J_4.out.below b2)
        have RJ_5 := Lib.hid (RJ_4.out.below b2)
        have BE_5 := Lib.hid (BE_4.out.trans (b2.mono BE_4.out.size))
        have KA_4 := Lib.hid (KA_3.out.below b2 KA_3.out.lt)
        have IA_4 := Lib.hid (IA_3.out.below b2 (Nat.le_refl _))
        have KB_3 := Lib.hid (KB_2.out.below b2 KB_2.out.lt)
        have IB_3 := Lib.hid (IB_2.out.below b2 (Nat.le_refl _))
        clear J_4 RJ_4 BE_4 KA_3 IA_3 KB_2 IB_2
        obtain ⟨AS1, cS1, rfl, sS1⟩ := own_form oS1
        have S1_0 := Lib.hid sS1
        clear oS1 fS1 sS1
        refine hK.out _ _ b2 ?_
        clear hK K b2
        try simp only [Act.put, List.setIfInBounds_toArray, List.set_cons_zero, List.set_cons_succ]
        refine Reg.take 11 (v := ?_) rfl (by kernel_rfl) (fun _ _ _ h => h) rfl ?_ ?_
        rotate_left
        · intro W hW
          have cv := run_string_sl (P := Try.prog) (w := W) 40 9 5 Try.underlying40 Try.underlying5 Try.underlying9 (S1_0.out.below hW.all (Nat.le_refl _)) cS1
          go_simp
          try with_reducible rfl
        try simp only [Act.put, List.setIfInBounds_toArray, List.set_cons_zero, List.set_cons_succ]
        refine Reg.do_ 13 rfl (by kernel_rfl) rfl (fun K hK => ?_)
        go_simp
        refine (bytesR_any F2 gk _ _ js _ _ _ RJ_5.out HBL.out).mono ?_
        rintro e v3 ⟨xS2, rfl, oS2, fS2, b3⟩
        have J_6 := Lib.hid (J_5.out.below b3)
        have RJ_6 := Lib.hid (RJ_5.out.below b3)
        have BE_6 := Lib.hid (BE_5.out.trans (b3.mono BE_5.out.size))
        have KA_5 := Lib.hid (KA_4.out.below b3 KA_4.out.lt)
        have IA_5 := Lib.hid (IA_4.out.below b3 (Nat.le_refl _))
        have KB_4 := Lib.hid (KB_3.out.below b3 KB_3.out.lt)
        have IB_4 := Lib.hid (IB_3.out.below b3 (Nat.le_refl _))
        have S1_1 := Lib.hid (S1_0.out.below b3 (Nat.le_refl _))
        clear J_5 RJ_5 BE_5 KA_4 IA_4 KB_3 IB_3 S1_0
        obtain ⟨AS2, cS2, rfl, sS2⟩ := own_form oS2
        have S2_0 := Lib.hid sS2
        clear oS2 fS2 sS2
        refine hK.out _ _ b3 ?_
        clear hK K b3
        try simp only [Act.put, List.setIfInBounds_toArray, List.set_cons_zero, List.set_cons_succ]
        refine Reg.take 14 (v := ?_) rfl (by kernel_rfl) (fun _ _ _ h => h) rfl ?_ ?_
        rotate_left
        · intro W hW
          have cv := run_string_sl (P := Try.prog) (w := W) 40 9 5 Try.underlying40 Try.underlying5 Try.underlying9 (S2_0.out.below hW.all (Nat.le_refl _)) cS2
          go_simp
          try with_reducible rfl
        try simp only [Act.put, List.setIfInBounds_toArray, List.set_cons_zero, List.set_cons_succ]
        refine Reg.take 15 (v := ?_) rfl (by kernel_rfl) (fun _ _ _ h => h) rfl ?_ ?_
        rotate_left
        · intro W hW
          go_simp
          try with_reducible rfl
        try simp only [Act.put, List.setIfInBounds_toArray, List.set_cons_zero, List.set_cons_succ]
        refine Reg.take 16 (v := ?_) rfl (by kernel_rfl) (fun _ _ _ h => h) rfl ?_ ?_
        rotate_left
        · intro W hW
          go_simp
          try with_reducible rfl
        try simp only [Act.put, List.setIfInBounds_toArray, List.set_cons_zero, List.set_cons_succ]
        refine Reg.take 17 (v := ?_) rfl (by kernel_rfl) (fun _ _ _ h => h) rfl ?_ ?_
        rotate_left
        · intro W hW
          go_simp
          try with_reducible rfl
        try simp only [Act.put, List.setIfInBounds_toArray, List.set_cons_zero, List.set_cons_succ]
        refine Reg.do_ 18 rfl (by kernel_rfl) rfl (fun K hK => ?_)
        go_simp
        refine (awake_any _).mono ?_
        rintro e v4 ⟨rfl, b4⟩
        have J_7 := Lib.hid (J_6.out.below b4)
        have RJ_7 := Lib.hid (RJ_6.out.below b4)
        have BE_7 := Lib.hid (BE_6.out.trans (b4.mono BE_6.out.size))
        have KA_6 := Lib.hid (KA_5.out.below b4 KA_5.out.lt)
        have IA_6 := Lib.hid (IA_5.out.below b4 (Nat.le_refl _))
        have KB_5 := Lib.hid (KB_4.out.below b4 KB_4.out.lt)
        have IB_5 := Lib.hid (IB_4.out.below b4 (Nat.le_refl _))
        have S1_2 := Lib.hid (S1_1.out.below b4 (Nat.le_refl _))
        have S2_1 := Lib.hid (S2_0.out.below b4 (Nat.le_refl _))
        clear J_6 RJ_6 BE_6 KA_5 IA_5 KB_4 IB_4 S1_1 S2_0
        refine hK.out _ _ b4 ?_
        clear hK K b4
        try simp only [Act.put, List.setIfInBounds_toArray, List.set_cons_zero, List.set_cons_succ]
        refine Reg.take 19 (v := ?_) rfl (by kernel_rfl) (fun _ _ _ h => h) rfl ?_ ?_
        rotate_left
        · intro W hW
          go_simp
          try with_reducible rfl
        try simp only [Act.put, List.setIfInBounds_toArray, List.set_cons_zero, List.set_cons_succ]
        refine Reg.take 20 (v := ?_) rfl (by kernel_rfl) (fun _ _ _ h => h) rfl ?_ ?_
        rotate_left
        · intro W hW
          go_simp
          try with_reducible rfl
        try simp only [Act.put, List.setIfInBounds_toArray, List.set_cons_zero, List.set_cons_succ]
        refine Reg.done (by kernel_rfl) ?_
        go_wp2_with fail
        go_ret
        exact ⟨rfl, BE_7.out⟩
end Go.Proofs.Ythpmngdpgniehaa.Jr
